/- bytes.HasPrefix: the walk. -/
import Derived.Test.YtjhnnnklfhbebaaTkA
namespace Go.Proofs.Ytjhnnnklfhbebaa
open Go.RowKit
set_option linter.unusedVariables false
set_option linter.unusedSimpArgs false
theorem prefix_calls (A B : Option Addr) (c d : Nat) (l m : List UInt8) (n k : Nat) (hn : l.length = n) (hk : m.length = k) (hc : n ≤ c) (hm : c ≤ maxLen) (w : World) (h : RB w A l) (h2 : RB w B m) (hp : m = l.take k) :
    Calls Try.prog 82 #[.slice A n c, .slice B k d] w fun e w' => e = .returned (.bool true) ∧ w = w' := by
  have hkn : k ≤ n := by
    have := congrArg List.length hp
    rw [List.length_take] at this
    omega
  have hki : (k : Int) ≤ (n : Int) := by omega
  have hr : RB w A m := by
    rw [hp]
    intro i hi
    rw [List.length_take] at hi
    obtain ⟨b, o, e, hc⟩ := h i (by omega)
    refine ⟨b, o, e, ?_⟩
    rw [hc]
    have : gb (l.take k) i = gb l i := by
      unfold gb
      simp [List.getElem?_take, show i < k by omega]
    rw [this]
  have HE := Lib.hid (equal_calls A B c d m m w hr h2)
  rw [hk, beq_self_eq_true] at HE
  have hcc : k ≤ c := by omega
  have hm2 : c ≤ 9223372036854775807 := hm
  clear h h2 hp hr hn hk hm
  go_enter Try.func82, Try.ntmps82
  go_wp2_with fail
  refine HE.out.mono ?_
  rintro e w' ⟨rfl, rfl⟩
  go_wp2_with fail
  go_ret
  exact ⟨rfl, rfl⟩
theorem tell_right {P : PS} (hr : RightAt P) {i : Nat} (hi : i < 2) : ∃ (sb sc sd se sx : Nat) (sf sg : Bool), (P.c i).tell = [.int .i64 (sb : Int), .int .i64 (sc : Int), .int .i64 (sd : Int), .int .i64 (se : Int), .int .i64 (sx : Int), .bool sf, .bool sg] ∧
    (sf = true → sx = 0 → sb ≠ 5 → P.wr (1 - i) = P.rd i ∧ ∃ (tb tc td te tx : Nat) (tf : Bool), (P.c (1 - i)).tell = [.int .i64 (tb : Int), .int .i64 (tc : Int), .int .i64 (td : Int), .int .i64 (te : Int), .int .i64 (tx : Int), .bool tf, .bool true]) := by
  by_cases h0 : (P.c i).state = 0
  · refine ⟨0, 0, 0, 0, 0, false, false, ?_, fun e => by cases e⟩
    unfold TS.tell
    rw [if_pos h0]
    rfl
  · refine ⟨(P.c i).state, (P.c i).sent, (P.c i).out.length, (P.c i).got, (P.c i).inn.length, (P.c i).fin, (P.c i).shut, ?_, fun e e2 e3 => ?_⟩
    · unfold TS.tell
      rw [if_neg h0]
    · obtain ⟨h1, h2, h3⟩ := hr.all i hi h0 e3 e (List.eq_nil_of_length_eq_zero e2)
      refine ⟨h1, (P.c (1 - i)).state, (P.c (1 - i)).sent, (P.c (1 - i)).out.length, (P.c (1 - i)).got, (P.c (1 - i)).inn.length, (P.c (1 - i)).fin, ?_⟩
      unfold TS.tell
      rw [if_neg h2, h3]
set_option maxRecDepth 100000 in
set_option maxHeartbeats 4000000 in
theorem right_calls {N : Nat → Prop} {w : World} {g : Nat} {P : PS} {V : PV} (h : All N (pItems g P V) w) (hr : RightAt P) :
    Calls Try.prog 36 #[.pointer (some ⟨g, 0, none⟩)] w fun e w' => e = .returned (.bool true) ∧ Below w.heap.size w w' := by
  have HA := Lib.hid h
  have HR := Lib.hid hr
  have hgl := (h.get 0 p_bk).1.lt
  clear h hr
  go_enter Try.func36, Try.ntmps36
  go_wp2_with fail
  go_loopg [7] 2 (fun gk v wr => ∃ i : Nat, v = .int .i64 (i : Int) ∧ i + gk = 2 ∧ Hid (Below w.heap.size w wr))
  case atStart => exact ⟨0, rfl, by omega, Lib.hid (Below.refl _ _)⟩
  case round =>
    obtain ⟨i, rfl, hig, HBW⟩ := hrel
    obtain ⟨wo, rfl⟩ : ∃ x, x = wr := ⟨_, rfl⟩
    by_cases hi2 : i < 2
    · have hii : (i : Int) < 2 := by omega
      have hwi : IntKind.i64.wrap ((i : Int) + 1) = ((i + 1 : Nat) : Int) := by rw [IntWalk.i64_in _ (by omega)]; omega
      have hws : IntKind.i64.wrap (1 - (i : Int)) = ((1 - i : Nat) : Int) := by rw [IntWalk.i64_in _ (by omega)]; omega
      have hj2 : 1 - i < 2 := by omega
      have hji : ((1 - i : Nat) : Int) < 2 := by omega
      obtain ⟨j, hj⟩ : ∃ j, 1 - i = j := ⟨_, rfl⟩
      have HAO : Hid (All N (pItems g P V) wo) := Lib.hid (HA.out.ext HBW.out)
      obtain ⟨pv, hpv⟩ : ∃ pv, ptr (V.k i) = pv := ⟨_, rfl⟩
      obtain ⟨qv, hqv⟩ : ∃ qv, ptr (V.k j) = qv := ⟨_, rfl⟩
      rw [hj] at hws hj2 hji
      have hbk := (HAO.out.get 0 p_bk).1
      obtain ⟨Aw, cw, hvw, hrw, hcw, hmw⟩ := (HAO.out.get _ (p_wr hj2)).1.form
      obtain ⟨Ar, cr, hvr, hrr, hcr, hmr⟩ := (HAO.out.get _ (p_rd hi2)).1.form
      obtain ⟨wl, hwl⟩ : ∃ wl, (P.wr j).length = wl := ⟨_, rfl⟩
      obtain ⟨rl, hrl⟩ : ∃ rl, (P.rd i).length = rl := ⟨_, rfl⟩
      have hpre : P.rd i = (P.wr j).take rl := by rw [← hrl, ← hj]; exact HR.out.pre i hi2
      have HPX : Hid (∀ W : World, Below wo.heap.size wo W → Calls Try.prog 82 #[.slice Aw wl cw, .slice Ar rl cr] W fun e w' => e = .returned (.bool true) ∧ W = w') := Lib.hid fun W hb =>
        prefix_calls Aw Ar cw cr (P.wr j) (P.rd i) wl rl hwl hrl (by rw [← hwl]; exact hcw) hmw W (hrw.ext hb) (hrr.ext hb) hpre
      obtain ⟨sb, sc, sd, se, sx, sf, sg, htell, hall⟩ := tell_right HR.out hi2
      rw [hj] at hall
      have HEN : Hid (∀ W : World, Below wo.heap.size wo W → Calls Try.prog 26 #[pv] W fun e w' => e = .returned (.agg #[.int .i64 (sb : Int), .int .i64 (sc : Int), .int .i64 (sd : Int), .int .i64 (se : Int), .int .i64 (sx : Int), .bool sf, .bool sg]) ∧ Below W.heap.size W w') := Lib.hid fun W hb => by
        have := side_end (HAO.out.ext hb) (p_side hi2)
        rw [htell, hpv] at this
        exact this
      have HALL : Hid (sf = true → sx = 0 → sb ≠ 5 → (∀ W : World, Below wo.heap.size wo W → Calls Try.prog 27 #[.slice Aw wl cw, .slice Ar rl cr] W fun e w' => e = .returned (.bool true) ∧ W = w') ∧
          ∃ (tb tc td te tx : Int) (tf : Bool), ∀ W : World, Below wo.heap.size wo W → Calls Try.prog 26 #[qv] W fun e w' => e = .returned (.agg #[.int .i64 tb, .int .i64 tc, .int .i64 td, .int .i64 te, .int .i64 tx, .bool tf, .bool true]) ∧ Below W.heap.size W w') := Lib.hid fun e1 e2 e3 => by
        obtain ⟨a1, tb, tc, td, te, tx, tf, a2⟩ := hall e1 e2 e3
        refine ⟨fun W hb => ?_, tb, tc, td, te, tx, tf, fun W hb => ?_⟩
        · have := equal_calls Aw Ar cw cr (P.wr j) (P.rd i) W (hrw.ext hb) (hrr.ext hb)
          rw [hwl, hrl, a1, beq_self_eq_true] at this
          exact this
        · have := side_end (HAO.out.ext hb) (p_side hj2)
          rw [a2, hqv] at this
          exact this
      have HCL : Hid (∀ W : World, Below wo.heap.size wo W → W.cell? ⟨g, i, none⟩ = some pv ∧ W.cell? ⟨g, j, none⟩ = some qv ∧ W.cell? ⟨g, 5 + j, none⟩ = some (.slice Aw wl cw) ∧ W.cell? ⟨g, 7 + i, none⟩ = some (.slice Ar rl cr)) := Lib.hid fun W hb => by
        have hk := ((HAO.out.ext hb).get 0 p_bk).1
        refine ⟨?_, ?_, ?_, ?_⟩
        · rw [← hpv]
          exact hk.cell (c_ptr hi2)
        · rw [← hqv]
          exact hk.cell (c_ptr hj2)
        · rw [← hwl, ← hvw]
          exact hk.cell (c_wr hj2)
        · rw [← hrl, ← hvr]
          exact hk.cell (c_rd hi2)
      clear hbk hpv hqv hvw hrw hcw hmw hvr hrr hcr hmr hwl hrl htell hall hpre hj HAO
      obtain ⟨ci, cj, cwc, crc⟩ := HCL.out wo (Below.refl _ _)
      go_upto_region 4 with fail
      go_quiet (fail)
      clear ci cj cwc crc
      have HBA : Hid (Below wo.heap.size wo (wo.drewN nq)) := Lib.hid (ext_drewN (Below.refl _ _) nq)
      generalize wo.drewN nq = wa at *
      obtain ⟨ci, cj, cwc, crc⟩ := HCL.out wa HBA.out
      go_upto_region 5 with fail
      go_quiet (first | ((go_at_call 82; refine Calls.quiet_of_same ((HPX.out _ (ext_drewN HBA.out _)).mono fun _ _ k => ⟨k.1, k.2.symm⟩))))
      have HBB : Hid (Below wo.heap.size wo (wa.drewN nq)) := Lib.hid (ext_drewN HBA.out nq)
      generalize wa.drewN nq = wb at *
      clear ci cj cwc crc HBA HPX
      go_wp2_with fail
      refine (HEN.out wb HBB.out).mono ?_
      rintro e w6 ⟨rfl, hb6⟩
      have HB6 := Lib.hid (ext_trans HBB.out hb6)
      clear hb6 HEN HBB
      go_upto_region 8 with fail
      obtain ⟨gx, hgx⟩ : ∃ gx, w6.heap.size = gx := ⟨_, rfl⟩
      refine name_world (fun W => Below wo.heap.size wo W ∧ BK W w6.heap.size 56 [.int .i64 (sb : Int), .int .i64 (sc : Int), .int .i64 (sd : Int), .int .i64 (se : Int), .int .i64 (sx : Int), .bool sf, .bool sg]) ⟨ext_trans HB6.out (ext_alloc _ _), BK.new _ _ _⟩ ?_
      rintro w7 ⟨hb7, hk7⟩
      rw [hgx] at hk7 ⊢
      have HK7 := Lib.hid hk7
      have HB7 := Lib.hid hb7
      have y5 : w7.cell? ⟨gx, 5, none⟩ = some (.bool sf) := hk7.cell rfl
      have y4 : w7.cell? ⟨gx, 4, none⟩ = some (.int .i64 (sx : Int)) := hk7.cell rfl
      have y0 : w7.cell? ⟨gx, 0, none⟩ = some (.int .i64 (sb : Int)) := hk7.cell rfl
      clear hb7 hk7 HB6 hgx
      cases sf with
      | false =>
        clear HALL
        go_quiet (fail)
        go_wp2_with fail
        go_roundg (gk - 1)
        case measure => omega
        case rel => exact ⟨i + 1, by first | rfl | (congr 1), by omega, Lib.hid (ext_trans HBW.out (ext_drewN HB7.out _))⟩
      | true =>
        by_cases hx0 : sx = 0
        · by_cases hb5 : sb = 5
          · have d4 : ((sx : Int) == 0) = true := by rw [hx0]; rfl
            have d5 : ((sb : Int) != 5) = false := by rw [hb5]; rfl
            clear HALL hx0 hb5
            go_quiet (fail)
            go_wp2_with fail
            go_roundg (gk - 1)
            case measure => omega
            case rel => exact ⟨i + 1, by first | rfl | (congr 1), by omega, Lib.hid (ext_trans HBW.out (ext_drewN HB7.out _))⟩
          · have d5 : ((sb : Int) != 5) = true := by rw [bne_iff_ne]; omega
            obtain ⟨heq, tb, tc, td, te, tx, tf, heo⟩ := HALL.out rfl hx0 hb5
            have HEQ := Lib.hid heq
            have HEO := Lib.hid heo
            subst hx0
            clear HALL hb5 heq heo y0 y4 y5
            refine wp_region_facts [[], [0], [0, 1], [0, 1, 2], [0, 1, 2, 3], [0, 1, 2, 3, 4], [0, 1, 2, 3, 4, 5], [0, 1, 2, 3, 4, 5, 6], [0, 1, 2, 3, 4, 5, 6, 7], [0, 1, 2, 3, 4, 5, 6, 7, 8], [0, 1, 2, 3, 4, 5, 6, 7, 8, 9], [0, 1, 2, 3, 4, 5, 6, 7, 8, 9, 10], [0, 1, 2, 3, 4, 5, 6, 7, 8, 9, 10, 11], [0, 1, 2, 3, 4, 5, 6, 7, 8, 9, 10, 11, 12], [0, 1, 2, 3, 4, 5, 6, 7, 8, 9, 10, 11, 12], [0, 1, 2, 3, 4, 5, 6, 7, 8, 9, 10, 11, 12, 14], [0, 1, 2, 3, 4, 5, 6, 7, 8, 9, 10, 11, 12, 13], [0, 1, 2, 3, 4, 5, 6, 7, 8, 9, 10, 11, 12, 13, 16], [0, 1, 2, 3, 4, 5, 6, 7, 8, 9, 10, 11, 12, 13, 14, 15, 16, 17], [0, 1, 2, 3, 4, 5, 6, 7, 8, 9, 10, 11, 12, 13, 14, 15, 16, 17, 18], [0, 1, 2, 3, 4, 5, 6, 7, 8, 9, 10, 11, 12], [0, 1, 2, 3, 4, 5, 6, 7, 8, 9, 10, 11, 12], [0, 1, 2, 3, 4, 5, 6, 7, 8, 9, 10, 11, 12, 20], [0, 1, 2, 3, 4, 5, 6, 7, 8, 9, 10, 11, 12, 20, 22], [0, 1, 2, 3, 4, 5, 6, 7, 8, 9, 10, 11, 12, 20, 21, 22, 23], [0, 1, 2, 3, 4, 5, 6, 7, 8, 9, 10, 11, 12, 20, 21, 22, 23, 24], [0, 1, 2, 3, 4, 5, 6, 7, 8, 9, 10, 11, 12, 13, 14, 15, 16, 17, 18, 19, 20, 21, 22, 23, 24, 25], [0, 1, 2, 3, 4, 5, 6, 7, 8, 9, 10, 11, 12, 13, 14, 15, 16, 17, 18, 19, 20, 21, 22, 23, 24, 25, 26], [0, 1, 2, 3, 4, 5, 6, 7, 8, 9, 10, 11, 12, 13, 14, 15, 16, 17, 18, 19, 20, 21, 22, 23, 24, 25, 26, 27], [0, 1, 2, 3, 4, 5, 6, 7, 8, 9, 10, 11, 12, 13, 14, 15, 16, 17, 18, 19, 20, 21, 22, 23, 24, 25, 26, 27, 28], [0, 1, 2, 3, 4, 5, 6, 7, 8, 9, 10, 11, 12, 13, 14, 15, 16, 17, 18, 19, 20, 21, 22, 23, 24, 25, 26, 27, 28, 29], [0, 1, 2, 3, 4, 5, 6, 7, 8, 9, 10, 11, 12, 13, 14, 15, 16, 17, 18, 19, 20, 21, 22, 23, 24, 25, 26, 27, 28, 29, 30], [0, 1, 2, 3, 4, 5, 6, 7, 8, 9, 10, 11, 12, 13, 14, 15, 16, 17, 18, 19, 20, 21, 22, 23, 24, 25, 26, 27, 28, 29, 30, 31], [0, 1, 2, 3, 4, 5, 6, 7, 8, 9, 10, 11, 12, 13, 14, 15, 16, 17, 18, 19, 20, 21, 22, 23, 24, 25, 26, 27, 28, 29, 30, 31, 32], [0, 1, 2, 3, 4, 5, 6, 7, 8, 9, 10, 11, 12, 13, 14, 15, 16, 17, 18, 19, 20, 21, 22, 23, 24, 25, 26, 27, 28, 29, 30, 31, 32, 33]]
              [fun u _ => u = .pointer (some ⟨gx, 5, none⟩),
               fun u _ => u = .bool true,
               fun u _ => u = .bool true,
               fun u _ => u = .pointer (some ⟨gx, 4, none⟩),
               fun u _ => u = .int .i64 0,
               fun u _ => u = .bool true,
               fun u _ => u = .bool true,
               fun u _ => u = .bool true,
               fun u _ => u = .pointer (some ⟨gx, 0, none⟩),
               fun u _ => u = .int .i64 (sb : Int),
               fun u _ => u = .bool true,
               fun u _ => u = .bool true,
               fun u _ => u = .bool true,
               fun u _ => u = .pointer (some ⟨g, 0, none⟩),
               fun u _ => u = .int .i64 (i : Int),
               fun u _ => u = .int .i64 (j : Int),
               fun u _ => u = .pointer (some ⟨g, 0, none⟩),
               fun u _ => u = .pointer (some ⟨g, 5, none⟩),
               fun u _ => u = .pointer (some ⟨g, 5 + j, none⟩),
               fun u _ => u = .slice Aw wl cw,
               fun u _ => u = .pointer (some ⟨g, 0, none⟩),
               fun u _ => u = .int .i64 (i : Int),
               fun u _ => u = .pointer (some ⟨g, 0, none⟩),
               fun u _ => u = .pointer (some ⟨g, 7, none⟩),
               fun u _ => u = .pointer (some ⟨g, 7 + i, none⟩),
               fun u _ => u = .slice Ar rl cr,
               fun u _ => u = .bool true,
               fun u _ => u = .bool false,
               fun u _ => u = .bool false,
               fun u _ => u = qv,
               fun u _ => u = .agg #[.int .i64 tb, .int .i64 tc, .int .i64 td, .int .i64 te, .int .i64 tx, .bool tf, .bool true],
               fun u _ => u = .bool true,
               fun u _ => u = .bool false,
               fun u _ => u = .bool false,
               fun u _ => u = .bool false]
              (fun u => ⟨#[Value.pointer (some { block := g, off := 0 }), undef, u2, Value.int IntKind.i64 (i : Int), pv, qv, Value.pointer (some { block := gx, off := 0 }), Value.int IntKind.i64 (i : Int), Value.bool true, Value.int IntKind.i64 (i : Int), Value.pointer (some { block := g, off := 0 }), Value.int IntKind.i64 (i : Int), Value.pointer (some { block := g, off := 0 }), Value.pointer (some { block := g, off := 0 }), Value.pointer (some { block := g, off := i }), pv, Value.pointer (some { block := g, off := 0 }), Value.int IntKind.i64 (i : Int), Value.int IntKind.i64 (j : Int), Value.pointer (some { block := g, off := 0 }), Value.pointer (some { block := g, off := 0 }), Value.pointer (some { block := g, off := j }), qv, Value.pointer (some { block := g, off := 0 }), Value.int IntKind.i64 (i : Int), Value.int IntKind.i64 (j : Int), Value.pointer (some { block := g, off := 0 }), Value.pointer (some { block := g, off := 5 }), Value.pointer (some { block := g, off := 5 + j }), Value.slice Aw wl cw, Value.pointer (some { block := g, off := 0 }), Value.int IntKind.i64 (i : Int), Value.pointer (some { block := g, off := 0 }), Value.pointer (some { block := g, off := 7 }), Value.pointer (some { block := g, off := 7 + i }), Value.slice Ar rl cr, Value.bool true, Value.bool false, pv, Value.agg #[Value.int IntKind.i64 (sb : Int), Value.int IntKind.i64 (sc : Int), Value.int IntKind.i64 (sd : Int), Value.int IntKind.i64 (se : Int), Value.int IntKind.i64 ((0 : Nat) : Int), Value.bool true, Value.bool sg], u 0, u 1, u 2, u 3, u 4, u 5, u 6, u 7, u 8, u 9, u 10, u 11, u 12, u 13, u 14, u 15, u 16, u 17, u 18, u 19, u 20, u 21, u 22, u 23, u 24, u 25, u 26, u 27, u 28, u 29, u 30, u 31, u 32, u 33, u 34, u75], []⟩)
              (fun j => [u40, u41, u42, u43, u44, u45, u46, u47, u48, u49, u50, u51, u52, u53, u54, u55, u56, u57, u58, u59, u60, u61, u62, u63, u64, u65, u66, u67, u68, u69, u70, u71, u72, u73, u74].getD j undef) (by kernel_rfl) (by kernel_rfl) (by kernel_rfl) rfl ⟨Mono.eq _, Mono.eq _, Mono.eq _, Mono.eq _, Mono.eq _, Mono.eq _, Mono.eq _, Mono.eq _, Mono.eq _, Mono.eq _, Mono.eq _, Mono.eq _, Mono.eq _, Mono.eq _, Mono.eq _, Mono.eq _, Mono.eq _, Mono.eq _, Mono.eq _, Mono.eq _, Mono.eq _, Mono.eq _, Mono.eq _, Mono.eq _, Mono.eq _, Mono.eq _, Mono.eq _, Mono.eq _, Mono.eq _, Mono.eq _, Mono.eq _, Mono.eq _, Mono.eq _, Mono.eq _, Mono.eq _, trivial⟩ ?_ ?_
            · refine ⟨?_, ?_, ?_, ?_, ?_, ?_, ?_, ?_, ?_, ?_, ?_, ?_, ?_, ?_, ?_, ?_, ?_, ?_, ?_, ?_, ?_, ?_, ?_, ?_, ?_, ?_, ?_, ?_, ?_, ?_, ?_, ?_, ?_, ?_, ?_, trivial⟩
              · intro u w2 hb hF J K hJ hK
                have HB2 := Lib.hid hb
                have HF := Lib.hid hF
                clear hb hF
                go_wp2
                exact hJ _ _ _ (Below.refl _ _) (rfl) (by simp [setU] <;> omega)
              · intro u w2 hb hF J K hJ hK
                have HB2 := Lib.hid hb
                have HF := Lib.hid hF
                clear hb hF
                have f0 : u 0 = .pointer (some ⟨gx, 5, none⟩) := HF.out 0 (by decide)
                have qc : w2.cell? ⟨gx, 5, none⟩ = some (.bool true) := (HK7.out.ext HB2.out).cell rfl
                go_wp2
                exact hJ _ _ _ (Below.refl _ _) (rfl) (by simp [setU, f0] <;> omega)
              · intro u w2 hb hF J K hJ hK
                have HB2 := Lib.hid hb
                have HF := Lib.hid hF
                clear hb hF
                have f1 : u 1 = .bool true := HF.out 1 (by decide)
                go_wp2
                exact hJ _ _ _ (Below.refl _ _) (rfl) (by simp [setU, f1] <;> omega)
              · intro u w2 hb hF J K hJ hK
                have HB2 := Lib.hid hb
                have HF := Lib.hid hF
                clear hb hF
                have f2 : u 2 = .bool true := HF.out 2 (by decide)
                go_wp2
                exact hJ _ _ _ (Below.refl _ _) (rfl) (by simp [setU, f2] <;> omega)
              · intro u w2 hb hF J K hJ hK
                have HB2 := Lib.hid hb
                have HF := Lib.hid hF
                clear hb hF
                have f2 : u 2 = .bool true := HF.out 2 (by decide)
                have f3 : u 3 = .pointer (some ⟨gx, 4, none⟩) := HF.out 3 (by decide)
                have qc : w2.cell? ⟨gx, 4, none⟩ = some (.int .i64 0) := (HK7.out.ext HB2.out).cell rfl
                go_wp2
                exact hJ _ _ _ (Below.refl _ _) (rfl) (by simp [setU, f2, f3] <;> omega)
              · intro u w2 hb hF J K hJ hK
                have HB2 := Lib.hid hb
                have HF := Lib.hid hF
                clear hb hF
                have f2 : u 2 = .bool true := HF.out 2 (by decide)
                have f4 : u 4 = .int .i64 0 := HF.out 4 (by decide)
                go_wp2
                exact hJ _ _ _ (Below.refl _ _) (rfl) (by simp [setU, f2, f4] <;> omega)
              · intro u w2 hb hF J K hJ hK
                have HB2 := Lib.hid hb
                have HF := Lib.hid hF
                clear hb hF
                have f2 : u 2 = .bool true := HF.out 2 (by decide)
                have f5 : u 5 = .bool true := HF.out 5 (by decide)
                go_wp2
                exact hJ _ _ _ (Below.refl _ _) (rfl) (by simp [setU, f2, f5] <;> omega)
              · intro u w2 hb hF J K hJ hK
                have HB2 := Lib.hid hb
                have HF := Lib.hid hF
                clear hb hF
                have f6 : u 6 = .bool true := HF.out 6 (by decide)
                go_wp2
                exact hJ _ _ _ (Below.refl _ _) (rfl) (by simp [setU, f6] <;> omega)
              · intro u w2 hb hF J K hJ hK
                have HB2 := Lib.hid hb
                have HF := Lib.hid hF
                clear hb hF
                have f7 : u 7 = .bool true := HF.out 7 (by decide)
                go_wp2
                exact hJ _ _ _ (Below.refl _ _) (rfl) (by simp [setU, f7] <;> omega)
              · intro u w2 hb hF J K hJ hK
                have HB2 := Lib.hid hb
                have HF := Lib.hid hF
                clear hb hF
                have f7 : u 7 = .bool true := HF.out 7 (by decide)
                have f8 : u 8 = .pointer (some ⟨gx, 0, none⟩) := HF.out 8 (by decide)
                have qc : w2.cell? ⟨gx, 0, none⟩ = some (.int .i64 (sb : Int)) := (HK7.out.ext HB2.out).cell rfl
                go_wp2
                exact hJ _ _ _ (Below.refl _ _) (rfl) (by simp [setU, f7, f8] <;> omega)
              · intro u w2 hb hF J K hJ hK
                have HB2 := Lib.hid hb
                have HF := Lib.hid hF
                clear hb hF
                have f7 : u 7 = .bool true := HF.out 7 (by decide)
                have f9 : u 9 = .int .i64 (sb : Int) := HF.out 9 (by decide)
                go_wp2
                exact hJ _ _ _ (Below.refl _ _) (rfl) (by simp [setU, f7, f9] <;> omega)
              · intro u w2 hb hF J K hJ hK
                have HB2 := Lib.hid hb
                have HF := Lib.hid hF
                clear hb hF
                have f7 : u 7 = .bool true := HF.out 7 (by decide)
                have f10 : u 10 = .bool true := HF.out 10 (by decide)
                go_wp2
                exact hJ _ _ _ (Below.refl _ _) (rfl) (by simp [setU, f7, f10] <;> omega)
              · intro u w2 hb hF J K hJ hK
                have HB2 := Lib.hid hb
                have HF := Lib.hid hF
                clear hb hF
                have f11 : u 11 = .bool true := HF.out 11 (by decide)
                go_wp2
                exact hJ _ _ _ (Below.refl _ _) (rfl) (by simp [setU, f11] <;> omega)
              · intro u w2 hb hF J K hJ hK
                have HB2 := Lib.hid hb
                have HF := Lib.hid hF
                clear hb hF
                have f12 : u 12 = .bool true := HF.out 12 (by decide)
                go_wp2
                exact hJ _ _ _ (Below.refl _ _) (rfl) (by simp [setU, f12] <;> omega)
              · intro u w2 hb hF J K hJ hK
                have HB2 := Lib.hid hb
                have HF := Lib.hid hF
                clear hb hF
                have f12 : u 12 = .bool true := HF.out 12 (by decide)
                go_wp2
                exact hJ _ _ _ (Below.refl _ _) (rfl) (by simp [setU, f12] <;> omega)
              · intro u w2 hb hF J K hJ hK
                have HB2 := Lib.hid hb
                have HF := Lib.hid hF
                clear hb hF
                have f12 : u 12 = .bool true := HF.out 12 (by decide)
                have f14 : u 14 = .int .i64 (i : Int) := HF.out 14 (by decide)
                go_wp2
                exact hJ _ _ _ (Below.refl _ _) (rfl) (by simp [setU, f12, f14] <;> omega)
              · intro u w2 hb hF J K hJ hK
                have HB2 := Lib.hid hb
                have HF := Lib.hid hF
                clear hb hF
                have f12 : u 12 = .bool true := HF.out 12 (by decide)
                have f13 : u 13 = .pointer (some ⟨g, 0, none⟩) := HF.out 13 (by decide)
                go_wp2
                exact hJ _ _ _ (Below.refl _ _) (rfl) (by simp [setU, f12, f13] <;> omega)
              · intro u w2 hb hF J K hJ hK
                have HB2 := Lib.hid hb
                have HF := Lib.hid hF
                clear hb hF
                have f12 : u 12 = .bool true := HF.out 12 (by decide)
                have f16 : u 16 = .pointer (some ⟨g, 0, none⟩) := HF.out 16 (by decide)
                go_wp2
                exact hJ _ _ _ (Below.refl _ _) (rfl) (by simp [setU, f12, f16] <;> omega)
              · intro u w2 hb hF J K hJ hK
                have HB2 := Lib.hid hb
                have HF := Lib.hid hF
                clear hb hF
                have f12 : u 12 = .bool true := HF.out 12 (by decide)
                have f15 : u 15 = .int .i64 (j : Int) := HF.out 15 (by decide)
                have f17 : u 17 = .pointer (some ⟨g, 5, none⟩) := HF.out 17 (by decide)
                go_wp2
                exact hJ _ _ _ (Below.refl _ _) (rfl) (by simp [setU, f12, f15, f17] <;> omega)
              · intro u w2 hb hF J K hJ hK
                have HB2 := Lib.hid hb
                have HF := Lib.hid hF
                clear hb hF
                have f12 : u 12 = .bool true := HF.out 12 (by decide)
                have f18 : u 18 = .pointer (some ⟨g, 5 + j, none⟩) := HF.out 18 (by decide)
                have qc := (HCL.out w2 (ext_trans HB7.out HB2.out)).2.2.1
                go_wp2
                exact hJ _ _ _ (Below.refl _ _) (rfl) (by simp [setU, f12, f18] <;> omega)
              · intro u w2 hb hF J K hJ hK
                have HB2 := Lib.hid hb
                have HF := Lib.hid hF
                clear hb hF
                have f12 : u 12 = .bool true := HF.out 12 (by decide)
                go_wp2
                exact hJ _ _ _ (Below.refl _ _) (rfl) (by simp [setU, f12] <;> omega)
              · intro u w2 hb hF J K hJ hK
                have HB2 := Lib.hid hb
                have HF := Lib.hid hF
                clear hb hF
                have f12 : u 12 = .bool true := HF.out 12 (by decide)
                go_wp2
                exact hJ _ _ _ (Below.refl _ _) (rfl) (by simp [setU, f12] <;> omega)
              · intro u w2 hb hF J K hJ hK
                have HB2 := Lib.hid hb
                have HF := Lib.hid hF
                clear hb hF
                have f12 : u 12 = .bool true := HF.out 12 (by decide)
                have f20 : u 20 = .pointer (some ⟨g, 0, none⟩) := HF.out 20 (by decide)
                go_wp2
                exact hJ _ _ _ (Below.refl _ _) (rfl) (by simp [setU, f12, f20] <;> omega)
              · intro u w2 hb hF J K hJ hK
                have HB2 := Lib.hid hb
                have HF := Lib.hid hF
                clear hb hF
                have f12 : u 12 = .bool true := HF.out 12 (by decide)
                have f22 : u 22 = .pointer (some ⟨g, 0, none⟩) := HF.out 22 (by decide)
                go_wp2
                exact hJ _ _ _ (Below.refl _ _) (rfl) (by simp [setU, f12, f22] <;> omega)
              · intro u w2 hb hF J K hJ hK
                have HB2 := Lib.hid hb
                have HF := Lib.hid hF
                clear hb hF
                have f12 : u 12 = .bool true := HF.out 12 (by decide)
                have f21 : u 21 = .int .i64 (i : Int) := HF.out 21 (by decide)
                have f23 : u 23 = .pointer (some ⟨g, 7, none⟩) := HF.out 23 (by decide)
                go_wp2
                exact hJ _ _ _ (Below.refl _ _) (rfl) (by simp [setU, f12, f21, f23] <;> omega)
              · intro u w2 hb hF J K hJ hK
                have HB2 := Lib.hid hb
                have HF := Lib.hid hF
                clear hb hF
                have f12 : u 12 = .bool true := HF.out 12 (by decide)
                have f24 : u 24 = .pointer (some ⟨g, 7 + i, none⟩) := HF.out 24 (by decide)
                have qc := (HCL.out w2 (ext_trans HB7.out HB2.out)).2.2.2
                go_wp2
                exact hJ _ _ _ (Below.refl _ _) (rfl) (by simp [setU, f12, f24] <;> omega)
              · intro u w2 hb hF J K hJ hK
                have HB2 := Lib.hid hb
                have HF := Lib.hid hF
                clear hb hF
                have f12 : u 12 = .bool true := HF.out 12 (by decide)
                have f19 : u 19 = .slice Aw wl cw := HF.out 19 (by decide)
                have f25 : u 25 = .slice Ar rl cr := HF.out 25 (by decide)
                go_wp2_with fail
                refine (HEQ.out w2 (ext_trans HB7.out HB2.out)).mono ?_
                rintro e w4 ⟨rfl, rfl⟩
                go_wp2
                exact hJ _ _ _ (Below.refl _ _) (rfl) (by simp [setU, f12, f19, f25] <;> omega)
              · intro u w2 hb hF J K hJ hK
                have HB2 := Lib.hid hb
                have HF := Lib.hid hF
                clear hb hF
                have f12 : u 12 = .bool true := HF.out 12 (by decide)
                have f26 : u 26 = .bool true := HF.out 26 (by decide)
                go_wp2
                exact hJ _ _ _ (Below.refl _ _) (rfl) (by simp [setU, f12, f26] <;> omega)
              · intro u w2 hb hF J K hJ hK
                have HB2 := Lib.hid hb
                have HF := Lib.hid hF
                clear hb hF
                have f12 : u 12 = .bool true := HF.out 12 (by decide)
                have f27 : u 27 = .bool false := HF.out 27 (by decide)
                go_wp2
                exact hJ _ _ _ (Below.refl _ _) (rfl) (by simp [setU, f12, f27] <;> omega)
              · intro u w2 hb hF J K hJ hK
                have HB2 := Lib.hid hb
                have HF := Lib.hid hF
                clear hb hF
                have f28 : u 28 = .bool false := HF.out 28 (by decide)
                go_wp2
                exact hJ _ _ _ (Below.refl _ _) (rfl) (by simp [setU, f28] <;> omega)
              · intro u w2 hb hF J K hJ hK
                have HB2 := Lib.hid hb
                have HF := Lib.hid hF
                clear hb hF
                have f28 : u 28 = .bool false := HF.out 28 (by decide)
                have f29 : u 29 = qv := HF.out 29 (by decide)
                go_wp2_with fail
                refine (HEO.out w2 (ext_trans HB7.out HB2.out)).mono ?_
                rintro e w4 ⟨rfl, hb4⟩
                have HB4 := Lib.hid hb4
                clear hb4
                go_wp2
                exact hJ _ _ _ (HB4.out) (rfl) (by simp [setU, f28, f29] <;> omega)
              · intro u w2 hb hF J K hJ hK
                have HB2 := Lib.hid hb
                have HF := Lib.hid hF
                clear hb hF
                have f28 : u 28 = .bool false := HF.out 28 (by decide)
                have f30 : u 30 = .agg #[.int .i64 tb, .int .i64 tc, .int .i64 td, .int .i64 te, .int .i64 tx, .bool tf, .bool true] := HF.out 30 (by decide)
                have qf := end_f6 tb tc td te tx tf true w2
                go_wp2
                exact hJ _ _ _ (Below.refl _ _) (rfl) (by simp [setU, f28, f30] <;> omega)
              · intro u w2 hb hF J K hJ hK
                have HB2 := Lib.hid hb
                have HF := Lib.hid hF
                clear hb hF
                have f28 : u 28 = .bool false := HF.out 28 (by decide)
                have f31 : u 31 = .bool true := HF.out 31 (by decide)
                go_wp2
                exact hJ _ _ _ (Below.refl _ _) (rfl) (by simp [setU, f28, f31] <;> omega)
              · intro u w2 hb hF J K hJ hK
                have HB2 := Lib.hid hb
                have HF := Lib.hid hF
                clear hb hF
                have f12 : u 12 = .bool true := HF.out 12 (by decide)
                have f28 : u 28 = .bool false := HF.out 28 (by decide)
                have f32 : u 32 = .bool false := HF.out 32 (by decide)
                go_wp2
                exact hJ _ _ _ (Below.refl _ _) (rfl) (by simp [setU, f12, f28, f32] <;> omega)
              · intro u w2 hb hF J K hJ hK
                have HB2 := Lib.hid hb
                have HF := Lib.hid hF
                clear hb hF
                have f12 : u 12 = .bool true := HF.out 12 (by decide)
                have f33 : u 33 = .bool false := HF.out 33 (by decide)
                go_wp2
                exact hJ _ _ _ (Below.refl _ _) (rfl) (by simp [setU, f12, f33] <;> omega)
            · intro u w2 hb hF
              have HB2 := Lib.hid hb
              have f34 : u 34 = .bool false := hF 34 (by decide)
              clear hb hF
              have HB9 := Lib.hid (ext_trans HB7.out HB2.out)
              clear HB2 HCL HEQ HEO HK7 HB7
              dsimp only
              rw [f34]
              go_wp2_with fail
              go_roundg (gk - 1)
              case measure => omega
              case rel => exact ⟨i + 1, by first | rfl | (congr 1), by omega, Lib.hid (ext_trans HBW.out HB9.out)⟩
        · have d4 : ((sx : Int) == 0) = false := by rw [beq_eq_false_iff_ne]; omega
          clear HALL hx0
          go_quiet (fail)
          go_wp2_with fail
          go_roundg (gk - 1)
          case measure => omega
          case rel => exact ⟨i + 1, by first | rfl | (congr 1), by omega, Lib.hid (ext_trans HBW.out (ext_drewN HB7.out _))⟩
    · obtain rfl : i = 2 := by omega
      go_wp2_with fail
      go_ret
      exact ⟨rfl, HBW.out⟩
end Go.Proofs.Ytjhnnnklfhbebaa
