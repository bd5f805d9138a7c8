/- tcp: fits: the walk (printed by gen.py). tcp: credit: the walk. tcp: keep: the walk (printed by gen.py). tcp: what the copies of fill leave (plain). tcp: fill: the walk (printed by gen.py). -/
import Derived.Test.YtjhnnnklfhbebaaTd
import Derived.Laws.CopyOwn
import Derived.Deep.CutBlock
import Derived.Lib.SliceRun
namespace Go.Proofs.Ytjhnnnklfhbebaa
open Go.RowKit
set_option linter.unusedVariables false
set_option linter.unusedSimpArgs false
section
variable {N : Nat → Prop} {w : World} {k : Nat} {s : TS} {vp : Value}
theorem takesN_le (fl : Int) (n : Nat) : takesN fl n ≤ n + 2 := by unfold takesN; split <;> split <;> omega
set_option maxRecDepth 100000 in
set_option maxHeartbeats 2000000 in
theorem fits_calls (h : ConnIs N w k s vp) (hin : s.inn.length ≤ 1024) (p : Pk) (A : Option Addr) (n c : Nat) (hn : p.data.length = n) (hl : n ≤ 2000) (hseq : p.seq < 4294967296) :
    Calls Try.prog 102 #[.pointer (some ⟨k, 0, none⟩), .agg (p.cs A n c).toArray] w fun e w' => e = .returned (.bool (s.fits p)) ∧ Below w.heap.size w w' := by
  have HTK := Lib.hid (takes_n p A n c (by omega))
  obtain ⟨T, hT⟩ : ∃ T, takesN p.fl n = T := ⟨_, rfl⟩
  rw [hT] at HTK
  have hT2 : T ≤ n + 2 := by rw [← hT]; exact takesN_le _ _
  obtain ⟨rv, hrv⟩ : ∃ rv, s.rnum s.rcv = rv := ⟨_, rfl⟩
  have hr32 : rv < 4294967296 := by rw [← hrv]; exact m32_lt _
  obtain ⟨wn, hwn⟩ : ∃ wn, s.window = wn := ⟨_, rfl⟩
  have hwn2 : wn ≤ 1024 := by rw [← hwn]; unfold TS.window; omega
  obtain ⟨q, hq⟩ : ∃ q, p.seq = q := ⟨_, rfl⟩
  rw [hq] at hseq
  obtain ⟨C, hC⟩ : ∃ C, TS.clip q T rv wn = C := ⟨_, rfl⟩
  obtain ⟨I, hI⟩ : ∃ I, TS.inN q rv (wn + 3) = I := ⟨_, rfl⟩
  have HCL := Lib.hid (clip_calls q T rv wn hseq hr32 (by omega) (by omega))
  rw [hC] at HCL
  have HIN := Lib.hid (in_calls q rv (wn + 3) hseq hr32 (by omega))
  rw [hI] at HIN
  have HF : Hid (s.fits p = (decide (q = rv) || decide (0 < C.2) || (decide (T = 0) && I))) := Lib.hid (by unfold TS.fits; dsimp only; rw [hn, hT, hrv, hwn, hq, hC, hI])
  obtain ⟨R, hR⟩ : ∃ R, s.fits p = R := ⟨_, rfl⟩
  rw [hR] at HF ⊢
  have H := Lib.hid h
  have HRV := Lib.hid hrv
  have HWN := Lib.hid hwn
  have hkl := h.lt.1
  clear h hn hT hrv hwn hC hI hR
  simp only [Pk.cs] at HTK ⊢
  rw [hq] at HTK ⊢
  clear hq
  go_enter Try.func102, Try.ntmps102
  go_wp2_with fail
  refine (HTK.out _).mono ?_
  rintro e w1 ⟨rfl, hb1⟩
  have HB1 : Hid (Below w.heap.size w w1) := Lib.hid ((ext_alloc _ _).trans (hb1.mono (by simp)))
  obtain ⟨g, hg⟩ : ∃ g, w.heap.size = g := ⟨_, rfl⟩
  have hkg : k < g := by omega
  have HP : Hid (BK w1 g 32 [.int .i64 p.src, .int .i64 p.dst, .int .i64 p.sp, .int .i64 p.dp, .int .u32 (q : Int), .int .u32 (p.ack : Int), .int .i64 p.fl, .int .i64 p.wn, .int .i64 p.pr, .int .i64 p.og, .slice A n c]) := Lib.hid (hg ▸ (BK.new _ _ _).ext hb1)
  have H1 : Hid (ConnIs N w1 k s vp) := Lib.hid (H.out.ext HB1.out)
  have HB1' : Hid (Below g w w1) := Lib.hid (hg ▸ HB1.out)
  rw [hg]
  have HG := Lib.hid hg
  clear hb1 hg HB1 HTK
  go_upto_region 2 with fail

  refine wp_region_facts [[], [0], [], [0, 1, 2], [], [4], [4, 5], [4, 5, 6], [4, 5, 6, 7], [], [9], [0, 1, 2, 3, 4, 5, 6, 7, 8, 9, 10], [0, 1, 2, 3, 4, 5, 6, 7, 8, 9, 10, 11], [0, 1, 2, 3, 4, 5, 6, 7, 8, 9, 10, 11, 12], [0, 1, 2, 3, 4, 5, 6, 7, 8, 9, 10, 11, 12], [0, 1, 2, 3, 4, 5, 6, 7, 8, 9, 10, 11, 12, 13], [0, 1, 2, 3, 4, 5, 6, 7, 8, 9, 10, 11, 12, 14]]
    [fun u _ => u = .pointer (some ⟨g, 4, none⟩),
     fun u _ => u = .int .u32 (q : Int),
     fun u _ => u = .int .i64 (T : Int),
     fun u _ => u = .agg #[.int .u32 (q : Int), .int .i64 (T : Int)],
     fun u _ => u = .pointer (some ⟨k, 0, none⟩),
     fun u _ => u = .pointer (some ⟨k, 0, none⟩),
     fun u _ => u = .pointer (some ⟨k, 14, none⟩),
     fun u _ => u = .pointer (some ⟨k, 15, none⟩),
     fun u _ => u = .int .u32 (rv : Int),
     fun u _ => u = .pointer (some ⟨k, 0, none⟩),
     fun u _ => u = .int .i64 (wn : Int),
     fun u _ => u = .tuple #[.int .i64 (C.1 : Int), .int .i64 (C.2 : Int)],
     fun u _ => u = .tuple #[.int .i64 (C.1 : Int), .int .i64 (C.2 : Int)],
     fun u _ => u = .int .i64 (C.1 : Int),
     fun u _ => u = .int .i64 (C.2 : Int),
     fun u _ => u = .int .i64 (C.1 : Int),
     fun u _ => u = .int .i64 (C.2 : Int)]
    (fun u => ⟨#[Value.pointer (some { block := k, off := 0 }), Value.agg #[Value.int IntKind.i64 p.src, Value.int IntKind.i64 p.dst, Value.int IntKind.i64 p.sp, Value.int IntKind.i64 p.dp, Value.int IntKind.u32 (q : Int), Value.int IntKind.u32 (p.ack : Int), Value.int IntKind.i64 p.fl, Value.int IntKind.i64 p.wn, Value.int IntKind.i64 p.pr, Value.int IntKind.i64 p.og, Value.slice A n c], undef, Value.pointer (some { block := g, off := 0 }), Value.bool false, Value.int IntKind.i64 (T : Int), u 15, u 16, Value.agg #[Value.int IntKind.i64 p.src, Value.int IntKind.i64 p.dst, Value.int IntKind.i64 p.sp, Value.int IntKind.i64 p.dp, Value.int IntKind.u32 (q : Int), Value.int IntKind.u32 (p.ack : Int), Value.int IntKind.i64 p.fl, Value.int IntKind.i64 p.wn, Value.int IntKind.i64 p.pr, Value.int IntKind.i64 p.og, Value.slice A n c], Value.int IntKind.i64 (T : Int), u 12, u 0, u 1, u 2, u 3, u 4, u 5, u 6, u 7, u 8, u 9, u 10, u 11, u 13, u 14, undef, undef, undef, undef, undef, undef, undef, undef, undef, undef, undef, undef, undef, undef, undef, undef, undef, undef, undef, undef, undef, undef, undef, undef, undef, undef, undef, undef, undef], []⟩)
    (fun j => [undef, undef, undef, undef, undef, undef, undef, undef, undef, undef, undef, undef, undef, undef, undef, undef, undef].getD j undef) (by kernel_rfl) (by kernel_rfl) (by kernel_rfl) rfl ⟨Mono.eq _, Mono.eq _, Mono.eq _, Mono.eq _, Mono.eq _, Mono.eq _, Mono.eq _, Mono.eq _, Mono.eq _, Mono.eq _, Mono.eq _, Mono.eq _, Mono.eq _, Mono.eq _, Mono.eq _, Mono.eq _, Mono.eq _, trivial⟩ ?_ ?_
  · refine ⟨?_, ?_, ?_, ?_, ?_, ?_, ?_, ?_, ?_, ?_, ?_, ?_, ?_, ?_, ?_, ?_, ?_, trivial⟩
    · intro u w2 hb hF J K hJ hK
      have HB2 := Lib.hid hb
      have HF := Lib.hid hF
      clear hb hF
      go_wp2
      exact hJ _ _ _ (Below.refl _ _) (rfl) (by simp [setU] <;> omega)
    · intro u w2 hb hF J K hJ hK
      have HB2 := Lib.hid hb
      have HF := Lib.hid hF
      clear hb hF
      have f0 : u 0 = .pointer (some ⟨g, 4, none⟩) := HF.out 0 (by decide)
      have q4 := (HP.out.ext HB2.out).cell (i := 4) rfl
      go_wp2
      exact hJ _ _ _ (Below.refl _ _) (rfl) (by simp [setU, f0] <;> omega)
    · intro u w2 hb hF J K hJ hK
      have HB2 := Lib.hid hb
      have HF := Lib.hid hF
      clear hb hF
      go_wp2
      exact hJ _ _ _ (Below.refl _ _) (rfl) (by simp [setU] <;> omega)
    · intro u w2 hb hF J K hJ hK
      have HB2 := Lib.hid hb
      have HF := Lib.hid hF
      clear hb hF
      have f1 : u 1 = .int .u32 (q : Int) := HF.out 1 (by decide)
      have f2 : u 2 = .int .i64 (T : Int) := HF.out 2 (by decide)
      go_wp2
      exact hJ _ _ _ (Below.refl _ _) (rfl) (by simp [setU, f1, f2] <;> omega)
    · intro u w2 hb hF J K hJ hK
      have HB2 := Lib.hid hb
      have HF := Lib.hid hF
      clear hb hF
      go_wp2
      exact hJ _ _ _ (Below.refl _ _) (rfl) (by simp [setU] <;> omega)
    · intro u w2 hb hF J K hJ hK
      have HB2 := Lib.hid hb
      have HF := Lib.hid hF
      clear hb hF
      have f4 : u 4 = .pointer (some ⟨k, 0, none⟩) := HF.out 4 (by decide)
      go_wp2
      exact hJ _ _ _ (Below.refl _ _) (rfl) (by simp [setU, f4] <;> omega)
    · intro u w2 hb hF J K hJ hK
      have HB2 := Lib.hid hb
      have HF := Lib.hid hF
      clear hb hF
      have f5 : u 5 = .pointer (some ⟨k, 0, none⟩) := HF.out 5 (by decide)
      go_wp2
      exact hJ _ _ _ (Below.refl _ _) (rfl) (by simp [setU, f5] <;> omega)
    · intro u w2 hb hF J K hJ hK
      have HB2 := Lib.hid hb
      have HF := Lib.hid hF
      clear hb hF
      have f6 : u 6 = .pointer (some ⟨k, 14, none⟩) := HF.out 6 (by decide)
      go_wp2
      exact hJ _ _ _ (Below.refl _ _) (rfl) (by simp [setU, f6] <;> omega)
    · intro u w2 hb hF J K hJ hK
      have HB2 := Lib.hid hb
      have HF := Lib.hid hF
      clear hb hF
      have f7 : u 7 = .pointer (some ⟨k, 15, none⟩) := HF.out 7 (by decide)
      have c15 := (H1.out.ext HB2.out).cellH 15 (by decide) (fun _ _ => rfl)
      rw [HRV.out] at c15
      go_wp2
      exact hJ _ _ _ (Below.refl _ _) (rfl) (by simp [setU, f7] <;> omega)
    · intro u w2 hb hF J K hJ hK
      have HB2 := Lib.hid hb
      have HF := Lib.hid hF
      clear hb hF
      go_wp2
      exact hJ _ _ _ (Below.refl _ _) (rfl) (by simp [setU] <;> omega)
    · intro u w2 hb hF J K hJ hK
      have HB2 := Lib.hid hb
      have HF := Lib.hid hF
      clear hb hF
      have f9 : u 9 = .pointer (some ⟨k, 0, none⟩) := HF.out 9 (by decide)
      have HWC := Lib.hid (window_calls w2 k s vp (H1.out.ext HB2.out) hin)
      rw [HWN.out] at HWC
      go_wp2_with (go_at_call 78; refine HWC.out.mono ?_; rintro e w3 ⟨rfl, rfl⟩)
      exact hJ _ _ _ (Below.refl _ _) (rfl) (by simp [setU, f9] <;> omega)
    · intro u w2 hb hF J K hJ hK
      have HB2 := Lib.hid hb
      have HF := Lib.hid hF
      clear hb hF
      have f3 : u 3 = .agg #[.int .u32 (q : Int), .int .i64 (T : Int)] := HF.out 3 (by decide)
      have f8 : u 8 = .int .u32 (rv : Int) := HF.out 8 (by decide)
      have f10 : u 10 = .int .i64 (wn : Int) := HF.out 10 (by decide)
      go_wp2_with (go_at_call 110; refine (HCL.out _).mono ?_; rintro e w3 ⟨rfl, hb⟩)
      have HB3 := Lib.hid hb; clear hb
      exact hJ _ _ _ (HB3.out) (rfl) (by simp [setU, f3, f8, f10] <;> omega)
    · intro u w2 hb hF J K hJ hK
      have HB2 := Lib.hid hb
      have HF := Lib.hid hF
      clear hb hF
      have f11 : u 11 = .tuple #[.int .i64 (C.1 : Int), .int .i64 (C.2 : Int)] := HF.out 11 (by decide)
      go_wp2
      exact hJ _ _ _ (Below.refl _ _) (rfl) (by simp [setU, f11] <;> omega)
    · intro u w2 hb hF J K hJ hK
      have HB2 := Lib.hid hb
      have HF := Lib.hid hF
      clear hb hF
      have f12 : u 12 = .tuple #[.int .i64 (C.1 : Int), .int .i64 (C.2 : Int)] := HF.out 12 (by decide)
      go_wp2
      exact hJ _ _ _ (Below.refl _ _) (rfl) (by simp [setU, f12] <;> omega)
    · intro u w2 hb hF J K hJ hK
      have HB2 := Lib.hid hb
      have HF := Lib.hid hF
      clear hb hF
      have f12 : u 12 = .tuple #[.int .i64 (C.1 : Int), .int .i64 (C.2 : Int)] := HF.out 12 (by decide)
      go_wp2
      exact hJ _ _ _ (Below.refl _ _) (rfl) (by simp [setU, f12] <;> omega)
    · intro u w2 hb hF J K hJ hK
      have HB2 := Lib.hid hb
      have HF := Lib.hid hF
      clear hb hF
      have f13 : u 13 = .int .i64 (C.1 : Int) := HF.out 13 (by decide)
      go_wp2
      exact hJ _ _ _ (Below.refl _ _) (rfl) (by simp [setU, f13] <;> omega)
    · intro u w2 hb hF J K hJ hK
      have HB2 := Lib.hid hb
      have HF := Lib.hid hF
      clear hb hF
      have f14 : u 14 = .int .i64 (C.2 : Int) := HF.out 14 (by decide)
      go_wp2
      exact hJ _ _ _ (Below.refl _ _) (rfl) (by simp [setU, f14] <;> omega)
  · intro u w2 hb hF
    have HB2 := Lib.hid hb
    have f15 : u 15 = .int .i64 (C.1 : Int) := hF 15 (by decide)
    have f16 : u 16 = .int .i64 (C.2 : Int) := hF 16 (by decide)
    clear hb hF
    have HB5 : Hid (Below g w w2) := Lib.hid (HB1'.out.trans (HB2.out.mono (Nat.le_of_lt HP.out.lt)))
    have H5 : Hid (ConnIs N w2 k s vp) := Lib.hid (H1.out.ext HB2.out)
    have HP5 := Lib.hid (HP.out.ext HB2.out)
    clear HB2
    dsimp only
    rw [f15, f16]
    clear f15 f16
    generalize u = ur at *
    obtain ⟨K2, hK2⟩ : ∃ K2, C.2 = K2 := ⟨_, rfl⟩
    rw [hK2] at HF ⊢
    have c15 := H5.out.cellH 15 (by decide) (fun _ _ => rfl)
    rw [HRV.out] at c15
    have q4 := HP5.out.cell (i := 4) rfl
    have HWC : Hid (∀ j, Calls Try.prog 78 #[.pointer (some ⟨k, 0, none⟩)] (w2.drewN j) fun e w' => e = .returned (.int .i64 (wn : Int)) ∧ (w2.drewN j) = w') := Lib.hid fun j => by
      have hh := window_calls (w2.drewN j) k s vp (H5.out.ext (ext_drewN (Below.refl _ _) j)) hin
      rw [HWN.out] at hh
      exact hh
    clear hK2 H1 HP HB1' HCL
    have fin : Hid (∀ j, Below g w (w2.drewN j)) := Lib.hid fun j => ext_drewN HB5.out j
    have hwg : Hid (w.heap.size = g) := HG
    by_cases h1 : q = rv
    · have HX : Hid (R = true) := Lib.hid (by rw [HF.out, decide_eq_true h1]; rfl)
      subst h1
      go_upto_region 3 with fail
      go_quiet (fail)
      go_wp2_with fail
      go_ret
      exact ⟨by rw [HX.out]; rfl, hwg.out ▸ fin.out _⟩
    · have e1 : ((q : Int) == (rv : Int)) = false := beq_eq_false_iff_ne.2 (by omega)
      by_cases h2 : 0 < K2
      · have HX : Hid (R = true) := Lib.hid (by rw [HF.out, decide_eq_true h2, Bool.or_true]; rfl)
        go_upto_region 3 with fail
        go_quiet (fail)
        go_wp2_with fail
        go_ret
        exact ⟨by rw [HX.out]; rfl, hwg.out ▸ fin.out _⟩
      · have HY : Hid (R = (decide (T = 0) && I)) := Lib.hid (by rw [HF.out, decide_eq_false h1, decide_eq_false h2]; rfl)
        obtain rfl : K2 = 0 := by omega
        by_cases h3 : T = 0
        · have HX : Hid (R = I) := Lib.hid (by rw [HY.out, decide_eq_true h3]; rfl)
          subst h3
          go_upto_region 3 with fail
          go_quiet ((first | (go_at_call 78; refine Calls.quiet_of_same ((HWC.out _).mono fun _ _ k => ⟨k.1, k.2.symm⟩)) | (go_at_call 85; refine Calls.quiet_of_same ((HIN.out _).mono fun _ _ k => ⟨k.1, k.2.symm⟩))))
          go_wp2_with fail
          go_ret
          exact ⟨by rw [HX.out]; rfl, hwg.out ▸ fin.out _⟩
        · have HX : Hid (R = false) := Lib.hid (by rw [HY.out, decide_eq_false h3]; rfl)
          have e3 : ((T : Int) == 0) = false := beq_eq_false_iff_ne.2 (by omega)
          go_upto_region 3 with fail
          go_quiet (fail)
          go_wp2_with fail
          go_ret
          exact ⟨by rw [HX.out]; rfl, hwg.out ▸ fin.out _⟩
end
end Go.Proofs.Ytjhnnnklfhbebaa
namespace Go.Proofs.Ytjhnnnklfhbebaa
open Go.RowKit
set_option linter.unusedVariables false
set_option linter.unusedSimpArgs false
theorem sd_add (a b : Nat) (ha : a < 4294967296) (hb : b < 4294967296) (h : 0 ≤ sd a b) : m32 (b + (sd a b).toNat) = a := by unfold sd at h ⊢; unfold m32; omega
theorem TS.num_add (s : TS) (u n : Nat) : s.num (u + n) = m32 (s.num u + n) := by unfold TS.num m32; omega
section
variable {N : Nat → Prop} {w : World} {k : Nat} {s : TS} {vp : Value}
theorem TS.credit_n {a : Nat} (hs : s.Sn) (ho : s.out.length ≤ 1024) (ha : a < 4294967296) (h1 : ¬ 0 < sd a (s.num s.top)) (h2 : 0 < sd a (s.num s.una)) : s.una + (sd a (s.num s.una)).toNat ≤ s.top ∧ s.num (s.una + (sd a (s.num s.una)).toNat) = a := by
  have e1 := sd_add a (s.num s.una) ha (m32_lt _) (by omega)
  rw [TS.num_add]
  refine ⟨?_, e1⟩
  have := hs.a
  have := hs.b
  have := hs.c
  unfold TS.num sd m32 at *
  omega
set_option maxRecDepth 100000 in
set_option maxHeartbeats 2000000 in
theorem credit_calls (h : ConnIs N w k s vp) (hN : ∀ b, N b → b < w.heap.size) (hs : s.Sn) (hout : s.out.length ≤ 1024) (hst : s.sent ≤ 1000000000000) (p : Pk) (A : Option Addr) (n c : Nat) (hack : p.ack < 4294967296) :
    Calls Try.prog 103 #[.pointer (some ⟨k, 0, none⟩), .agg (p.cs A n c).toArray] w fun e w' => e = .returned (.bool (s.credit p).1) ∧ ConnIs N w' k (s.credit p).2 vp ∧ Chg k vp w w' := by
  obtain ⟨d1, hd1⟩ : ∃ d1, sd p.ack (s.num s.top) = d1 := ⟨_, rfl⟩
  obtain ⟨d2, hd2⟩ : ∃ d2, sd p.ack (s.num s.una) = d2 := ⟨_, rfl⟩
  have HD1 := Lib.hid (diff_calls p.ack (s.num s.top) hack (m32_lt _))
  have HD2 := Lib.hid (diff_calls p.ack (s.num s.una) hack (m32_lt _))
  rw [hd1] at HD1
  rw [hd2] at HD2
  have hb2 := sd_bd p.ack (s.num s.una)
  rw [hd2] at hb2
  have HCN : Hid (¬ 0 < d1 → 0 < d2 → s.una + d2.toNat ≤ s.top ∧ s.num (s.una + d2.toNat) = p.ack) := Lib.hid (by rw [← hd1, ← hd2]; exact TS.credit_n hs hout hack)
  have HC : Hid (s.credit p = if 0 < d1 then (false, s) else if d2 < 0 then (true, s) else if d2 = 0 then (true, { s with wnd := p.wn, tries := 0 }) else (true, { s with wnd := p.wn, tries := 0, over := s.over || decide (min d2.toNat s.out.length < d2.toNat), out := s.out.drop (min d2.toNat s.out.length), sent := s.sent + min d2.toNat s.out.length, una := s.una + d2.toNat, timer := 0, nxt := max s.nxt (s.una + d2.toNat) })) := Lib.hid (by unfold TS.credit; rw [hd1, hd2])
  have c6 := h.cellH 6 (by decide) (fun _ _ => rfl)
  have c8 := h.cellH 8 (by decide) (fun _ _ => rfl)
  have H := Lib.hid h
  have HN := Lib.hid hN
  have HSN := Lib.hid hs
  have hkl := h.lt.1
  obtain ⟨g, hg⟩ : ∃ g, w.heap.size = g := ⟨_, rfl⟩
  have hkg : k < g := by omega
  have HG := Lib.hid hg
  clear h hN hs hd1 hd2
  simp only [Pk.cs]
  go_enter Try.func103, Try.ntmps103
  go_upto_region 1 with fail
  refine name_world (fun W => ConnIs N W k s vp ∧ Chg k vp w W ∧ BK W g 32 [.int .i64 p.src, .int .i64 p.dst, .int .i64 p.sp, .int .i64 p.dp, .int .u32 (p.seq : Int), .int .u32 (p.ack : Int), .int .i64 p.fl, .int .i64 p.wn, .int .i64 p.pr, .int .i64 p.og, .slice A n c]) ⟨H.out.ext (ext_alloc _ _), Chg.below (ext_alloc _ _), hg ▸ BK.new _ _ _⟩ ?_
  clear c6 c8 hg
  rintro w1 ⟨h1, hc1, hp1⟩
  have c6 := h1.cellH 6 (by decide) (fun _ _ => rfl)
  have c8 := h1.cellH 8 (by decide) (fun _ _ => rfl)
  have q5 := hp1.cell (i := 5) rfl
  have q7 := hp1.cell (i := 7) rfl
  have H1 := Lib.hid h1
  have HC1 := Lib.hid hc1
  have HP1 := Lib.hid hp1
  clear h1 hc1 hp1
  go_quiet ((go_at_call 98; refine Calls.quiet_of_same ((HD1.out _).mono fun _ _ k => ⟨k.1, k.2.symm⟩)))
  by_cases hp1 : 0 < d1
  · have HX : Hid (s.credit p = (false, s)) := Lib.hid (by rw [HC.out, if_pos hp1])
    go_wp2_with fail
    go_ret
    exact ⟨by rw [HX.out]; rfl, by rw [HX.out]; exact H1.out.ext (ext_drewN (Below.refl _ _) _), HC1.out.trans (Chg.below (ext_drewN (Below.refl _ _) _)) (After.refl _ _)⟩
  · have hp1' : d1 ≤ 0 := by omega
    go_upto_region 3 with fail
    refine name_world (fun W => Below w1.heap.size w1 W) (ext_drewN (Below.refl _ _) _) ?_
    rintro w2 hb12
    have H2 : Hid (ConnIs N w2 k s vp) := Lib.hid (H1.out.ext hb12)
    have HC2 : Hid (Chg k vp w w2) := Lib.hid (HC1.out.trans (Chg.below hb12) (After.refl _ _))
    have HP2 := Lib.hid (HP1.out.ext hb12)
    have c6 := H2.out.cellH 6 (by decide) (fun _ _ => rfl)
    have q5 := HP2.out.cell (i := 5) rfl
    clear hb12 H1 HC1 HP1 c8 q7
    go_quiet ((go_at_call 98; refine Calls.quiet_of_same ((HD2.out _).mono fun _ _ k => ⟨k.1, k.2.symm⟩)))
    by_cases hp2 : d2 < 0
    · have HX : Hid (s.credit p = (true, s)) := Lib.hid (by rw [HC.out, if_neg hp1, if_pos hp2])
      go_wp2_with fail
      go_ret
      exact ⟨by rw [HX.out]; rfl, by rw [HX.out]; exact H2.out.ext (ext_drewN (Below.refl _ _) _), HC2.out.trans (Chg.below (ext_drewN (Below.refl _ _) _)) (After.refl _ _)⟩
    · have hp2' : 0 ≤ d2 := by omega
      obtain ⟨t, ht⟩ : ∃ t : Nat, d2 = (t : Int) := ⟨d2.toNat, by omega⟩
      subst ht
      go_upto_region 6 with fail
      refine name_world (fun W => Below w2.heap.size w2 W) (ext_drewN (Below.refl _ _) _) ?_
      rintro w3 hb23
      have h3 := H2.out.ext hb23
      have hc3 : Chg k vp w w3 := HC2.out.trans (Chg.below hb23) (After.refl _ _)
      have hp3 := HP2.out.ext hb23
      have q7 := hp3.cell (i := 7) rfl
      have f10 := h3.frozen 10
      have f2071 := h3.frozen 2071
      have c10 := h3.cellH 10 (by decide) (fun _ _ => rfl)
      have c2071 := h3.cellT 6 (fun _ _ => rfl) 2071 rfl
      have h4 := (h3.setH { s with wnd := p.wn } 10 (by decide) (.int .i64 p.wn) (fun _ _ => rfl) (fun _ _ => rfl) rfl rfl rfl rfl (fun e => ⟨e, rfl⟩)).setT { s with wnd := p.wn, tries := 0 } 6 2071 rfl (.int .i64 0) (fun _ _ => rfl) (fun _ _ => rfl) rfl rfl rfl rfl (fun e => ⟨e, rfl⟩)
      have hg34 : w3.heap.size ≤ ((w3.setCell ⟨k, 10, none⟩ (.int .i64 p.wn)).setCell ⟨k, 2071, none⟩ (.int .i64 0)).heap.size := by simp [World.setCell]
      have hc34 : Chg k vp w3 ((w3.setCell ⟨k, 10, none⟩ (.int .i64 p.wn)).setCell ⟨k, 2071, none⟩ (.int .i64 0)) := (Chg.grown (grown_setCell _ _ _ _) (.inl rfl)).trans (Chg.grown (grown_setCell _ _ _ _) (.inl rfl)) (After.refl _ _)
      have hvg : vp.ownBlock ≠ some g := fun e => by have := (H.out.row e).2.2; have := HG.out; omega
      have hp4 := hp3.same (hc34.block g hp3.lt (by omega) hvg)
      have H4 := Lib.hid h4
      have HC4 := Lib.hid (hc3.trans hc34 (After.refl _ _))
      have HP4 := Lib.hid hp4
      have HVG := Lib.hid hvg
      clear h3 hc3 hp3 h4 hc34 hp4 hb23 hg34 H2 HC2 HP2 c6 q5 hvg
      by_cases ht0 : t = 0
      · have HX : Hid (s.credit p = (true, { s with wnd := p.wn, tries := 0 })) := Lib.hid (by rw [HC.out, if_neg hp1, if_neg hp2, if_pos (by omega)])
        subst ht0
        go_wp2_with fail
        go_ret
        exact ⟨by rw [HX.out]; rfl, by rw [HX.out]; exact H4.out, HC4.out⟩
      · have ht1 : 0 < t := by omega
        obtain ⟨hct, hca⟩ := HCN.out hp1 (by omega)
        have hct : s.una + t ≤ s.top := hct
        have HCA : Hid (s.num (s.una + t) = p.ack) := Lib.hid hca
        obtain ⟨o, ho⟩ : ∃ o, s.out.length = o := ⟨_, rfl⟩
        obtain ⟨d, hd⟩ : ∃ d, min t o = d := ⟨_, rfl⟩
        have HX : Hid (s.credit p = (true, { s with wnd := p.wn, tries := 0, over := s.over || decide (d < t), out := s.out.drop d, sent := s.sent + d, una := s.una + t, timer := 0, nxt := max s.nxt (s.una + t) })) := Lib.hid (by
          rw [HC.out, if_neg hp1, if_neg hp2, if_neg (by omega), Int.toNat_natCast, ho, hd])
        have htt : t ≤ 2000 := by have h := HSN.out; have h1 := h.a; have h2 := h.b; have h3 := h.c; omega
        have HD := Lib.hid hd
        have HOL := Lib.hid ho
        have hdo : d ≤ o := by omega
        have hdt : d ≤ t := by omega
        have ho2 : o ≤ 1024 := by omega
        clear hca HC HCN ho hd
        go_upto_region 8 with fail
        refine name_world (fun W => ConnIs N W k { s with wnd := p.wn, tries := 0 } vp ∧ Chg k vp w W ∧ BK W g 32 [.int .i64 p.src, .int .i64 p.dst, .int .i64 p.sp, .int .i64 p.dp, .int .u32 (p.seq : Int), .int .u32 (p.ack : Int), .int .i64 p.fl, .int .i64 p.wn, .int .i64 p.pr, .int .i64 p.og, .slice A n c]) ⟨H4.out, HC4.out, HP4.out⟩ ?_
        clear H4 HC4 HP4 c10 c2071 f10 f2071 q7
        rintro w5 ⟨h5, hc5, hp5⟩
        obtain ⟨A5, c5, c9, k1, k2, k3, k4⟩ := h5.cellO
        rw [show ({ s with wnd := p.wn, tries := 0 } : TS).out = s.out from rfl, HOL.out] at c9
        rw [show ({ s with wnd := p.wn, tries := 0 } : TS).out = s.out from rfl] at k1 k3
        rw [HOL.out] at k1
        have K3 := Lib.hid k3
        have H5 := Lib.hid h5
        have HC5 := Lib.hid hc5
        have HP5 := Lib.hid hp5
        have c12 := h5.cellH 12 (by decide) (fun _ _ => rfl)
        have f12 := h5.frozen 12
        rw [show ({ s with wnd := p.wn, tries := 0 } : TS).over = s.over from rfl] at c12
        clear h5 hc5 hp5 k4 k3
        go_cut [6] from 37 to 44 (fun v wc => v = .int .i64 (d : Int) ∧ w5 = wc)
        case first =>
          rcases Int.lt_or_le (o : Int) (t : Int) with h1 | h1
          · go_wp2_with fail
            go_meet
            case rel => exact ⟨by first | (congr 1; have := HD.out; omega) | (have : (o : Int) = (d : Int) := by have := HD.out; omega; rw [this]), rfl⟩
          · go_wp2_with fail
            go_meet
            case rel => exact ⟨by first | (congr 1; have := HD.out; omega) | (have : (t : Int) = (d : Int) := by have := HD.out; omega; rw [this]), rfl⟩
        case rest =>
          obtain ⟨rfl, rfl⟩ := hcut
          go_upto_region 9 with fail
          go_cut [58] from 45 to 58 (fun _ wc => Hid (ConnIs N wc k { s with wnd := p.wn, tries := 0, over := s.over || decide (d < t) } vp ∧ Chg k vp w wc ∧ BK wc g 32 [.int .i64 p.src, .int .i64 p.dst, .int .i64 p.sp, .int .i64 p.dp, .int .u32 (p.seq : Int), .int .u32 (p.ack : Int), .int .i64 p.fl, .int .i64 p.wn, .int .i64 p.pr, .int .i64 p.og, .slice A n c]))
          case first =>
            have HSO : Hid (∀ b : Bool, b = (s.over || decide (d < t)) → Hid (ConnIs N (w5.setCell ⟨k, 12, none⟩ (.bool b)) k { s with wnd := p.wn, tries := 0, over := s.over || decide (d < t) } vp ∧ Chg k vp w (w5.setCell ⟨k, 12, none⟩ (.bool b)) ∧ BK (w5.setCell ⟨k, 12, none⟩ (.bool b)) g 32 [.int .i64 p.src, .int .i64 p.dst, .int .i64 p.sp, .int .i64 p.dp, .int .u32 (p.seq : Int), .int .u32 (p.ack : Int), .int .i64 p.fl, .int .i64 p.wn, .int .i64 p.pr, .int .i64 p.og, .slice A n c])) := Lib.hid fun b hb => by
              subst hb
              have hc : Chg k vp w5 (w5.setCell ⟨k, 12, none⟩ (.bool (s.over || decide (d < t)))) := Chg.grown (grown_setCell _ _ _ _) (.inl rfl)
              exact Lib.hid ⟨H5.out.setH _ 12 (by decide) _ (fun _ _ => rfl) (fun _ _ => rfl) rfl rfl rfl rfl (fun e => ⟨e, rfl⟩), HC5.out.trans hc (After.refl _ _), HP5.out.same (hc.block g HP5.out.lt (by omega) HVG.out)⟩
            cases hov : s.over with
            | true =>
              rw [hov] at c12
              have HSB := HSO.out true (by rw [hov]; rfl)
              clear hov HSO
              go_wp2_with fail
              go_meet
              case rel => exact HSB
            | false =>
              rw [hov] at c12
              by_cases hlt : d < t
              · have HSB := HSO.out true (by rw [hov, decide_eq_true hlt]; rfl)
                clear hov HSO
                go_wp2_with fail
                go_meet
                case rel => exact HSB
              · have HSB := HSO.out false (by rw [hov, decide_eq_false hlt]; rfl)
                clear hov HSO
                go_wp2_with fail
                go_meet
                case rel => exact HSB
          case rest =>
            obtain ⟨h6, hc6, hp6⟩ := hcut.out
            clear hcut c9 c12 f12 K3 H5 HC5 HP5
            obtain ⟨w6, rfl⟩ : ∃ w6, w6 = wc := ⟨_, rfl⟩
            obtain ⟨A6, c6, c9, k1, k2, k3, k4⟩ := h6.cellO
            rw [show ({ s with wnd := p.wn, tries := 0, over := s.over || decide (d < t) } : TS).out = s.out from rfl, HOL.out] at c9
            rw [show ({ s with wnd := p.wn, tries := 0, over := s.over || decide (d < t) } : TS).out = s.out from rfl] at k1 k3
            rw [HOL.out] at k1
            have K3 := Lib.hid k3
            have H6 := Lib.hid h6
            have HC6 := Lib.hid hc6
            have HP6 := Lib.hid hp6
            have hkl6 := h6.lt.1
            have HN6 : Hid (∀ b, NN N k vp b → b < w6.heap.size) := Lib.hid fun b hb => by
              have := hc6.size
              rcases hb with hb | hb | hb
              · have := HN.out b hb; omega
              · omega
              · exact h6.lt.2 b hb
            have f9 := h6.frozen 9
            have HDL : Hid ((s.out.drop d).length = o - d) := Lib.hid (by rw [List.length_drop, HOL.out])
            have hRB : ∀ A', (A' = Option.map (fun x => x.add d) A6 ∨ o = d) → RB w6 A' (s.out.drop d) := fun A' hA => by
              by_cases him : o = d
              · rw [List.eq_nil_of_length_eq_zero (by rw [HDL.out]; omega : (s.out.drop d).length = 0)]
                exact RB.nil _ _
              · obtain ⟨b, oo, e, _⟩ := K3.out.form (by rw [HOL.out]; omega)
                have hA := hA.resolve_right him
                rw [e] at hA
                have K3' := K3.out
                rw [e] at K3'
                rw [hA]
                show RB w6 (some (Addr.add ⟨b, oo, none⟩ d)) _
                rw [add_pl]
                exact K3'.drop d
            have HRB := Lib.hid hRB
            have hdc : (d : Int) ≤ (c6 : Int) := by omega
            have HSC : Hid (∀ (W : World) (v : Value), Below w6.heap.size w6 W → OwnB w6.heap.size 5 W v (s.out.drop d) → Hid (ConnIs N (W.setCell ⟨k, 9, none⟩ v) k { s with wnd := p.wn, tries := 0, over := s.over || decide (d < t), out := s.out.drop d } vp ∧ Chg k vp w (W.setCell ⟨k, 9, none⟩ v) ∧ BK (W.setCell ⟨k, 9, none⟩ v) g 32 [.int .i64 p.src, .int .i64 p.dst, .int .i64 p.sp, .int .i64 p.dp, .int .u32 (p.seq : Int), .int .u32 (p.ack : Int), .int .i64 p.fl, .int .i64 p.wn, .int .i64 p.pr, .int .i64 p.og, .slice A n c])) := Lib.hid fun W v hB hO => by
              have hc : Chg k vp w6 (W.setCell ⟨k, 9, none⟩ v) := (Chg.below hB).trans (Chg.grown (grown_setCell _ _ _ _) (.inl rfl)) (After.refl _ _)
              exact Lib.hid ⟨(H6.out.ext hB).setO _ v (SlN.of_own hO HN6.out) (fun _ _ => rfl) (fun _ _ => rfl) rfl rfl rfl (fun e => ⟨e, rfl⟩), HC6.out.trans hc (After.refl _ _), HP6.out.same (hc.block g HP6.out.lt (by omega) HVG.out)⟩
            clear h6 hc6 hp6 k3 k4 hRB
            go_upto_region 10 with fail
            go_cut [70] from 59 to 70 (fun _ wc => Hid (ConnIs N wc k { s with wnd := p.wn, tries := 0, over := s.over || decide (d < t), out := s.out.drop d } vp ∧ Chg k vp w wc ∧ BK wc g 32 [.int .i64 p.src, .int .i64 p.dst, .int .i64 p.sp, .int .i64 p.dp, .int .u32 (p.seq : Int), .int .u32 (p.ack : Int), .int .i64 p.fl, .int .i64 p.wn, .int .i64 p.pr, .int .i64 p.og, .slice A n c]))
            case first =>
              go_wp2_with fail
              all_goals
                refine (clone_k _ _ (o - d) (s.out.drop d) HDL.out w6 (HRB.out _ (by first | exact .inl rfl | exact .inr (by omega))) (by omega)).mono ?_
                rintro e w7 ⟨R2, d7, rfl, hd3, hd4, ho2, hb2⟩
                have HS2 := HSC.out w7 _ hb2 ho2
                have c9 := (hb2.cell (World.block_lt_of_cell? _ _ c9)).trans c9
                have f9 := (H6.out.ext hb2).frozen 9
                have hkl7 : k < w7.heap.size := Nat.lt_of_lt_of_le hkl6 hb2.size
                clear ho2 hb2 HSC HRB
                go_wp2_with fail
                go_meet
                case rel => exact HS2
            case rest =>
              obtain ⟨h8, hc8, hp8⟩ := hcut.out
              clear hcut c9 f9 K3 H6 HC6 HP6 HSC HRB
              obtain ⟨w8, rfl⟩ : ∃ w8, w8 = wc := ⟨_, rfl⟩
              obtain ⟨sn, hsn⟩ : ∃ sn, s.sent = sn := ⟨_, rfl⟩
              obtain ⟨sn1, hsn1⟩ : ∃ sn1, sn + d = sn1 := ⟨_, rfl⟩
              have c13 := h8.cellH 13 (by decide) (fun _ _ => rfl)
              rw [show ({ s with wnd := p.wn, tries := 0, over := s.over || decide (d < t), out := s.out.drop d } : TS).sent = s.sent from rfl, hsn] at c13
              rw [hsn] at hst
              have hws : IntKind.i64.wrap ((sn : Int) + (d : Int)) = (sn1 : Int) := by rw [IntWalk.i64_in _ (by omega)]; omega
              have q5 := hp8.cell (i := 5) rfl
              have f13 := h8.frozen 13
              have c6' := h8.cellH 6 (by decide) (fun _ _ => rfl)
              have f6 := h8.frozen 6
              have c2070 := h8.cellT 5 (fun _ _ => rfl) 2070 rfl
              have f2070 := h8.frozen 2070
              have hgk : ¬ g = k := by omega
              have h9 := ((h8.setH { s with wnd := p.wn, tries := 0, over := s.over || decide (d < t), out := s.out.drop d, sent := s.sent + d } 13 (by decide) (.int .i64 ((s.sent + d : Nat) : Int)) (fun _ _ => rfl) (fun _ _ => rfl) rfl rfl rfl rfl (fun e => ⟨e, rfl⟩)).setH { s with wnd := p.wn, tries := 0, over := s.over || decide (d < t), out := s.out.drop d, sent := s.sent + d, una := s.una + t } 6 (by decide) (.int .u32 ((s.num (s.una + t) : Nat) : Int)) (fun _ _ => rfl) (fun _ _ => rfl) rfl rfl rfl rfl (fun e => ⟨e, rfl⟩)).setT { s with wnd := p.wn, tries := 0, over := s.over || decide (d < t), out := s.out.drop d, sent := s.sent + d, una := s.una + t, timer := 0 } 5 2070 rfl (.int .i64 0) (fun _ _ => rfl) (fun _ _ => rfl) rfl rfl rfl rfl (fun e => ⟨e, rfl⟩)
              rw [HCA.out, hsn, hsn1] at h9
              have hc9 : Chg k vp w8 (((w8.setCell ⟨k, 13, none⟩ (.int .i64 (sn1 : Int))).setCell ⟨k, 6, none⟩ (.int .u32 (p.ack : Int))).setCell ⟨k, 2070, none⟩ (.int .i64 0)) := ((Chg.grown (grown_setCell _ _ _ _) (.inl rfl)).trans (Chg.grown (grown_setCell _ _ _ _) (.inl rfl)) (After.refl _ _)).trans (Chg.grown (grown_setCell _ _ _ _) (.inl rfl)) (After.refl _ _)
              have H9 := Lib.hid h9
              have HC9 := Lib.hid (hc8.trans hc9 (After.refl _ _))
              have hkl8 := h8.lt.1
              clear h8 hc8 hp8 h9 hc9
              go_upto_region 13 with fail
              refine name_world (fun W => ConnIs N W k { s with wnd := p.wn, tries := 0, over := s.over || decide (d < t), out := s.out.drop d, sent := sn1, una := s.una + t, timer := 0 } vp ∧ Chg k vp w W) ⟨H9.out, HC9.out⟩ ?_
              clear H9 HC9 c6' f6 c13 f13 c2070 f2070 q5 hws
              rintro w9 ⟨h9, hc9⟩
              have hlt : decide (sd (s.num s.nxt) p.ack < 0) = decide (s.nxt < s.una + t) := by
                have h := HSN.out
                have h1 := h.a
                have h2 := h.b
                have h3 := h.c
                rw [← HCA.out, show s.num s.nxt = m32 (s.iss + s.nxt) from rfl, show s.num (s.una + t) = m32 (s.iss + (s.una + t)) from rfl, sd_num _ _ _ (by omega) (by omega)]
                exact decide_eq_decide.2 (by omega)
              have HLS := Lib.hid (less_calls (s.num s.nxt) p.ack (m32_lt _) hack)
              rw [hlt] at HLS
              have c6 := h9.cellH 6 (by decide) (fun _ _ => rfl)
              rw [show ({ s with wnd := p.wn, tries := 0, over := s.over || decide (d < t), out := s.out.drop d, sent := sn1, una := s.una + t, timer := 0 } : TS).num (s.una + t) = s.num (s.una + t) from rfl, HCA.out] at c6
              have c7 := h9.cellH 7 (by decide) (fun _ _ => rfl)
              rw [show ({ s with wnd := p.wn, tries := 0, over := s.over || decide (d < t), out := s.out.drop d, sent := sn1, una := s.una + t, timer := 0 } : TS).num s.nxt = s.num s.nxt from rfl] at c7
              have f7 := h9.frozen 7
              have hfin : ∀ (W : World), Below w9.heap.size w9 W → ConnIs N W k { s with wnd := p.wn, tries := 0, over := s.over || decide (d < t), out := s.out.drop d, sent := sn1, una := s.una + t, timer := 0 } vp ∧ Chg k vp w W := fun W hB => ⟨h9.ext hB, hc9.trans (Chg.below hB) (After.refl _ _)⟩
              have HFN := Lib.hid hfin
              have HSS : Hid (s.sent + d = sn1) := Lib.hid (by rw [hsn, hsn1])
              have hkl9 := h9.lt.1
              clear h9 hc9 hfin hlt hsn hsn1
              go_quiet ((go_at_call 111; refine Calls.quiet_of_same ((HLS.out _).mono fun _ _ k => ⟨k.1, k.2.symm⟩)))
              have HW9 : Hid (∀ j, ConnIs N (w9.drewN j) k { s with wnd := p.wn, tries := 0, over := s.over || decide (d < t), out := s.out.drop d, sent := sn1, una := s.una + t, timer := 0 } vp ∧ Chg k vp w (w9.drewN j)) := Lib.hid fun j => HFN.out _ (ext_drewN (Below.refl _ _) j)
              by_cases hnx : s.nxt < s.una + t
              · have hd : decide (s.nxt < s.una + t) = true := decide_eq_true hnx
                have HM : Hid (max s.nxt (s.una + t) = s.una + t) := Lib.hid (by omega)
                have HFI : Hid (∀ j, ConnIs N ((w9.drewN j).setCell ⟨k, 7, none⟩ (.int .u32 (p.ack : Int))) k { s with wnd := p.wn, tries := 0, over := s.over || decide (d < t), out := s.out.drop d, sent := s.sent + d, una := s.una + t, timer := 0, nxt := max s.nxt (s.una + t) } vp ∧ Chg k vp w ((w9.drewN j).setCell ⟨k, 7, none⟩ (.int .u32 (p.ack : Int)))) := Lib.hid fun j => by
                  have h := (HW9.out j).1.setH { s with wnd := p.wn, tries := 0, over := s.over || decide (d < t), out := s.out.drop d, sent := s.sent + d, una := s.una + t, timer := 0, nxt := max s.nxt (s.una + t) } 7 (by decide) (.int .u32 ((s.num (s.una + t) : Nat) : Int)) (fun _ _ => by rw [HM.out, ← HSS.out]; rfl) (fun _ _ => by rw [← HSS.out]; rfl) rfl rfl rfl rfl (fun e => ⟨e, rfl⟩)
                  rw [HCA.out] at h
                  exact ⟨h, (HW9.out j).2.trans (Chg.grown (grown_setCell _ _ _ _) (.inl rfl)) (After.refl _ _)⟩
                rw [hd]
                clear hd
                go_wp2_with fail
                go_ret
                exact ⟨by rw [HX.out]; rfl, by rw [HX.out]; exact (HFI.out _).1, (HFI.out _).2⟩
              · have hd : decide (s.nxt < s.una + t) = false := decide_eq_false hnx
                have HM : Hid (max s.nxt (s.una + t) = s.nxt) := Lib.hid (by omega)
                rw [hd]
                clear hd
                go_wp2_with fail
                go_ret
                exact ⟨by rw [HX.out]; rfl, by rw [HX.out, HM.out, HSS.out]; exact (HW9.out _).1, (HW9.out _).2⟩
end
end Go.Proofs.Ytjhnnnklfhbebaa
namespace Go.Proofs.Ytjhnnnklfhbebaa
open Go.RowKit
set_option linter.unusedVariables false
set_option linter.unusedSimpArgs false
/-- Where the bytes of a clipped stretch go. -/
theorem clip_at {st n f size : Nat} (hst : st < 4294967296) (hf : f < 4294967296) (hn : n ≤ 100000) (hz : size ≤ 100000) (i : Nat) (hi : i < (TS.clip st n f size).2) :
    sd (m32 (st + ((TS.clip st n f size).1 + i))) f = sd (m32 (st + (TS.clip st n f size).1)) f + i ∧ 0 ≤ sd (m32 (st + (TS.clip st n f size).1)) f ∧ sd (m32 (st + (TS.clip st n f size).1)) f + (TS.clip st n f size).2 ≤ size ∧ (TS.clip st n f size).1 + (TS.clip st n f size).2 ≤ n := by
  unfold TS.clip at hi ⊢
  by_cases h0 : n = 0 ∨ size = 0 ∨ sd st f = -2147483648
  · rw [if_pos h0] at hi
    exact absurd hi (Nat.not_lt_zero _)
  · rw [if_neg h0] at hi ⊢
    by_cases h1 : (n : Int) ≤ max 0 (sd f st) ∨ (size : Int) ≤ sd st f
    · rw [if_pos h1] at hi
      exact absurd hi (Nat.not_lt_zero _)
    · rw [if_neg h1] at hi ⊢
      dsimp only at hi ⊢
      unfold sd m32 at *
      omega
theorem EhIs.set {early : List (Option UInt8)} {eh : List Value} (h : EhIs early eh) (hl : early.length = 1024) (j : Nat) (hj : j < 1024) (x : UInt8) : EhIs (early.set j (some x)) ((eh.set j (vb x)).set (1024 + j) (.bool true)) := by
  obtain ⟨h1, h2⟩ := h
  refine ⟨by simp [h1], fun i hi => ?_⟩
  obtain ⟨y, e1, e2, e3⟩ := h2 i hi
  by_cases hij : i = j
  · subst hij
    refine ⟨x, ?_, ?_, ?_⟩
    · rw [List.getElem?_set_ne (by omega), List.getElem?_set_self (by omega)]
    · rw [List.getElem?_set_self (by simp [h1]; omega)]
      rw [List.getD_eq_getElem?_getD, List.getElem?_set_self (by omega)]
      rfl
    · intro z hz
      rw [List.getD_eq_getElem?_getD, List.getElem?_set_self (by omega)] at hz
      exact Option.some.inj hz
  · refine ⟨y, ?_, ?_, ?_⟩
    · rw [List.getElem?_set_ne (by omega), List.getElem?_set_ne (by omega)]
      exact e1
    · rw [List.getElem?_set_ne (by omega), List.getElem?_set_ne (by omega), List.getD_eq_getElem?_getD, List.getElem?_set_ne (by omega), ← List.getD_eq_getElem?_getD]
      exact e2
    · intro z hz
      rw [List.getD_eq_getElem?_getD, List.getElem?_set_ne (by omega), ← List.getD_eq_getElem?_getD] at hz
      exact e3 z hz
section
variable {N : Nat → Prop} {w : World} {k : Nat} {s : TS} {vp : Value}
/-- A byte that comes early. -/
theorem ConnIs.setE (h : ConnIs N w k s vp) (hl : s.early.length = 1024) (j : Nat) (hj : j < 1024) (x : UInt8) :
    ConnIs N ((w.setCell ⟨k, 17 + j, none⟩ (vb x)).setCell ⟨k, 1041 + j, none⟩ (.bool true)) k { s with early := s.early.set j (some x) } vp := by
  obtain ⟨vo, vi, fe, eh, h1, h2, h3, h4, h5, h6, h7, h8, h9⟩ := h
  have hg1 := grown_setCell w k (17 + j) (vb x)
  have hg2 := grown_setCell (w.setCell ⟨k, 17 + j, none⟩ (vb x)) k (1041 + j) (.bool true)
  refine ⟨vo, vi, fe, (eh.set j (vb x)).set (1024 + j) (.bool true), ?_, h2.set hl j hj x, h3, h4, (h5.grown hg1 (.inr (.inl rfl))).grown hg2 (.inr (.inl rfl)), (h6.grown hg1 (.inr (.inl rfl))).grown hg2 (.inr (.inl rfl)), (h7.grown hg1 (.inr (.inl rfl)) (fun e => (h9 k e).2 rfl)).grown hg2 (.inr (.inl rfl)) (fun e => (h9 k e).2 rfl), h8, h9⟩
  have := (h1.set (17 + j) (vb x)).set (1041 + j) (.bool true)
  unfold TS.cells at this ⊢
  have e : 1041 + j = 17 + (1024 + j) := by omega
  rw [e] at this ⊢
  rw [set_eh (TS.hd_len _ _ _) h2.1 j (by omega), set_eh (TS.hd_len _ _ _) (by simp [h2.1]) (1024 + j) (by omega)] at this
  exact this
/-- A cell of what came early. -/
theorem ConnIs.cellE (h : ConnIs N w k s vp) (j : Nat) (hj : j < 1024) : (∃ x : UInt8, w.cell? ⟨k, 17 + j, none⟩ = some (vb x)) ∧ w.cell? ⟨k, 1041 + j, none⟩ = some (.bool (s.early.getD j none).isSome) := by
  obtain ⟨vo, vi, fe, eh, h1, h2, _⟩ := h
  obtain ⟨x, e1, e2, _⟩ := h2.2 j hj
  refine ⟨⟨x, h1.cell ((get_eh (TS.hd_len _ _ _) h2.1 j (by omega)).trans e1)⟩, ?_⟩
  rw [show 1041 + j = 17 + (1024 + j) by omega]
  exact h1.cell ((get_eh (TS.hd_len _ _ _) h2.1 (1024 + j) (by omega)).trans e2)
/-- Where the end stands. -/
theorem ConnIs.setTold (h : ConnIs N w k s vp) (f : Nat) :
    ConnIs N ((w.setCell ⟨k, 2065, none⟩ (.bool true)).setCell ⟨k, 2066, none⟩ (.int .u32 (s.rnum f : Int))) k { s with told := true, fend := f } vp := by
  obtain ⟨vo, vi, fe, eh, h1, h2, h3, h4, h5, h6, h7, h8, h9⟩ := h
  have hg1 := grown_setCell w k 2065 (.bool true)
  have hg2 := grown_setCell (w.setCell ⟨k, 2065, none⟩ (.bool true)) k 2066 (.int .u32 (s.rnum f : Int))
  refine ⟨vo, vi, s.rnum f, eh, ?_, h2, m32_lt _, fun _ => rfl, (h5.grown hg1 (.inr (.inl rfl))).grown hg2 (.inr (.inl rfl)), (h6.grown hg1 (.inr (.inl rfl))).grown hg2 (.inr (.inl rfl)), (h7.grown hg1 (.inr (.inl rfl)) (fun e => (h9 k e).2 rfl)).grown hg2 (.inr (.inl rfl)) (fun e => (h9 k e).2 rfl), h8, h9⟩
  have := (h1.set (2065 + 0) (.bool true)).set (2065 + 1) (.int .u32 (s.rnum f : Int))
  unfold TS.cells at this ⊢
  rw [set_tl (TS.hd_len _ _ _) h2.1, set_tl (TS.hd_len _ _ _) h2.1] at this
  exact this
/-- The cell of the end's number. -/
theorem ConnIs.cellF (h : ConnIs N w k s vp) : ∃ fe : Nat, w.cell? ⟨k, 2066, none⟩ = some (.int .u32 (fe : Int)) ∧ fe < 4294967296 ∧ (s.told = true → fe = s.rnum s.fend) := by
  obtain ⟨vo, vi, fe, eh, h1, h2, h3, h4, _⟩ := h
  exact ⟨fe, h1.cell ((get_tl (TS.hd_len _ _ _) h2.1 1).trans rfl), h3, h4⟩
theorem TS.setL_len : ∀ (l : List UInt8) (e : List (Option UInt8)) (a : Nat), (TS.setL e a l).length = e.length
  | [], _, _ => rfl
  | x :: r, e, a => by
    show (TS.setL (e.set a (some x)) (a + 1) r).length = _
    rw [TS.setL_len r, List.length_set]
theorem TS.setL_snoc : ∀ (l : List UInt8) (e : List (Option UInt8)) (a : Nat) (x : UInt8), TS.setL e a (l ++ [x]) = (TS.setL e a l).set (a + l.length) (some x)
  | [], _, _, _ => rfl
  | y :: r, e, a, x => by
    show TS.setL (e.set a (some y)) (a + 1) (r ++ [x]) = (TS.setL (e.set a (some y)) (a + 1) r).set (a + (r.length + 1)) (some x)
    rw [TS.setL_snoc r, show a + (r.length + 1) = a + 1 + r.length by omega]
/-- Where the loop of keep stands. -/
def KeepAt (N : Nat → Prop) (w : World) (k : Nat) (vp : Value) (s : TS) (g at0 : Nat) (l : List UInt8) (ps : List Value) (j : Nat) (W : World) : Prop :=
  ConnIs N W k { s with early := TS.setL s.early at0 (l.take j) } vp ∧ Chg k vp w W ∧ BK W g 32 ps
set_option maxRecDepth 100000 in
set_option maxHeartbeats 2000000 in
theorem keep_calls (h : ConnIs N w k s vp) (hb : s.Ok) (p : Pk) (A : Option Addr) (n c : Nat) (hn : p.data.length = n) (hl : n ≤ 2000) (hnc : n ≤ c) (hseq : p.seq < 4294967296) (hr : RB w A p.data) (hAk : 0 < n → ∀ b o, A = some ⟨b, o, none⟩ → b ≠ k ∧ vp.ownBlock ≠ some b) :
    Calls Try.prog 104 #[.pointer (some ⟨k, 0, none⟩), .agg (p.cs A n c).toArray] w fun e w' => e = .returned (.tuple #[]) ∧ ConnIs N w' k (s.keep p) vp ∧ Chg k vp w w' := by
  obtain ⟨q, hq⟩ : ∃ q, p.seq = q := ⟨_, rfl⟩
  rw [hq] at hseq
  obtain ⟨rv, hrv⟩ : ∃ rv, s.rnum s.rcv = rv := ⟨_, rfl⟩
  have hr32 : rv < 4294967296 := by rw [← hrv]; exact m32_lt _
  obtain ⟨wn, hwn⟩ : ∃ wn, s.window = wn := ⟨_, rfl⟩
  have hwn2 : wn ≤ 1024 := by rw [← hwn]; unfold TS.window; omega
  have HWC : Hid (∀ W, ConnIs N W k s vp → Calls Try.prog 78 #[.pointer (some ⟨k, 0, none⟩)] W fun e w' => e = .returned (.int .i64 (wn : Int)) ∧ W = w') := Lib.hid fun W hW => by
    have hh := window_calls W k s vp hW hb.inn
    rw [hwn] at hh
    exact hh
  obtain ⟨C, hC⟩ : ∃ C, TS.clip q n rv wn = C := ⟨_, rfl⟩
  have HCL := Lib.hid (clip_calls q n rv wn hseq hr32 (by omega) (by omega))
  rw [hC] at HCL
  have hat := fun i hi => clip_at (st := q) (n := n) (f := rv) (size := wn) hseq hr32 (by omega) (by omega) i hi
  rw [hC] at hat
  obtain ⟨at0, hat0⟩ : ∃ at0, (sd (m32 (q + C.1)) rv).toNat = at0 := ⟨_, rfl⟩
  have HAT : Hid (∀ i, i < C.2 → sd (m32 (q + (C.1 + i))) rv = ((at0 + i : Nat) : Int) ∧ at0 + C.2 ≤ 1024 ∧ C.1 + C.2 ≤ n) := Lib.hid fun i hi => by
    obtain ⟨h1, h2, h3, h4⟩ := hat i hi
    rw [← hat0]
    omega
  have HK : Hid (s.keep p = (if hasF p 4 = true ∧ s.told = false ∧ 0 ≤ sd (m32 (q + n)) rv ∧ sd (m32 (q + n)) rv ≤ wn then { ({ s with early := TS.setL s.early at0 ((p.data.drop C.1).take C.2) } : TS) with told := true, fend := s.rcv + (sd (m32 (q + n)) rv).toNat } else { s with early := TS.setL s.early at0 ((p.data.drop C.1).take C.2) })) := Lib.hid (by
    unfold TS.keep
    dsimp only
    rw [hq, hn, hrv, hwn, hC, hat0])
  have H := Lib.hid h
  have HOK := Lib.hid hb
  have HRV := Lib.hid hrv
  have HRB := Lib.hid hr
  have HAK := Lib.hid hAk
  have HDL := Lib.hid hn
  have hkl := h.lt.1
  clear h hb hn hrv hwn hC hat hat0 hr hAk
  simp only [Pk.cs]
  rw [hq]
  obtain ⟨g, hg⟩ : ∃ g, w.heap.size = g := ⟨_, rfl⟩
  have hkg : k < g := by omega
  have HG := Lib.hid hg
  clear hq hg
  go_enter Try.func104, Try.ntmps104
  go_upto_region 1 with fail
  refine name_world (fun W => Below w.heap.size w W ∧ BK W g 32 [.int .i64 p.src, .int .i64 p.dst, .int .i64 p.sp, .int .i64 p.dp, .int .u32 (q : Int), .int .u32 (p.ack : Int), .int .i64 p.fl, .int .i64 p.wn, .int .i64 p.pr, .int .i64 p.og, .slice A n c]) ⟨ext_alloc _ _, HG.out ▸ BK.new _ _ _⟩ ?_
  rintro w1 ⟨hb1, hp1⟩
  have H1 : Hid (ConnIs N w1 k s vp) := Lib.hid (H.out.ext hb1)
  have HB1 := Lib.hid hb1
  have HP1 := Lib.hid hp1
  rw [HG.out]
  clear hb1 hp1
  go_wp2_with fail
  refine (HWC.out _ H1.out).mono ?_
  rintro e w2 ⟨rfl, rfl⟩
  go_upto_region 2 with fail

  refine wp_region_facts [[], [0], [], [2], [2, 3], [0, 1, 2, 3, 4], [], [6], [6, 7], [6, 7, 8], [6, 7, 8, 9], [], [0, 1, 2, 3, 4, 5, 6, 7, 8, 9, 10, 11], [0, 1, 2, 3, 4, 5, 6, 7, 8, 9, 10, 11, 12], [0, 1, 2, 3, 4, 5, 6, 7, 8, 9, 10, 11, 12, 13], [0, 1, 2, 3, 4, 5, 6, 7, 8, 9, 10, 11, 12, 13], [0, 1, 2, 3, 4, 5, 6, 7, 8, 9, 10, 11, 12, 13, 14], [0, 1, 2, 3, 4, 5, 6, 7, 8, 9, 10, 11, 12, 13, 15]]
    [fun u _ => u = .pointer (some ⟨g, 4, none⟩),
     fun u _ => u = .int .u32 (q : Int),
     fun u _ => u = .pointer (some ⟨g, 10, none⟩),
     fun u _ => u = .slice A n c,
     fun u _ => u = .int .i64 (n : Int),
     fun u _ => u = .agg #[.int .u32 (q : Int), .int .i64 (n : Int)],
     fun u _ => u = .pointer (some ⟨k, 0, none⟩),
     fun u _ => u = .pointer (some ⟨k, 0, none⟩),
     fun u _ => u = .pointer (some ⟨k, 14, none⟩),
     fun u _ => u = .pointer (some ⟨k, 15, none⟩),
     fun u _ => u = .int .u32 (rv : Int),
     fun u _ => u = .int .i64 (wn : Int),
     fun u _ => u = .tuple #[.int .i64 (C.1 : Int), .int .i64 (C.2 : Int)],
     fun u _ => u = .tuple #[.int .i64 (C.1 : Int), .int .i64 (C.2 : Int)],
     fun u _ => u = .int .i64 (C.1 : Int),
     fun u _ => u = .int .i64 (C.2 : Int),
     fun u _ => u = .int .i64 (C.1 : Int),
     fun u _ => u = .int .i64 (C.2 : Int)]
    (fun u => ⟨#[Value.pointer (some { block := k, off := 0 }), Value.agg #[Value.int IntKind.i64 p.src, Value.int IntKind.i64 p.dst, Value.int IntKind.i64 p.sp, Value.int IntKind.i64 p.dp, Value.int IntKind.u32 (q : Int), Value.int IntKind.u32 (p.ack : Int), Value.int IntKind.i64 p.fl, Value.int IntKind.i64 p.wn, Value.int IntKind.i64 p.pr, Value.int IntKind.i64 p.og, Value.slice A n c], undef, Value.pointer (some { block := g, off := 0 }), Value.int IntKind.i64 (wn : Int), u 16, u 17, undef, undef, undef, undef, Value.pointer (some { block := k, off := 0 }), Value.int IntKind.i64 (wn : Int), u 13, u 0, u 1, u 2, u 3, u 4, u 5, u 6, u 7, u 8, u 9, u 10, u 11, u 12, u 14, u 15, undef, undef, undef, undef, undef, undef, undef, undef, undef, undef, undef, undef, undef, undef, undef, undef, undef, undef, undef, undef, undef, undef, undef, undef, undef, undef, undef, undef, undef, undef, undef, undef, undef, undef, undef, undef, undef, undef, undef, undef, undef, undef, undef, undef, undef, undef, undef, undef, undef, undef, undef, undef, undef, undef, undef, undef, undef, undef, undef, undef, undef, undef, undef, undef, undef, undef, undef, undef, undef, undef, undef, undef, undef, undef, undef, undef, undef, undef, undef], []⟩)
    (fun j => [undef, undef, undef, undef, undef, undef, undef, undef, undef, undef, undef, undef, undef, undef, undef, undef, undef, undef].getD j undef) (by kernel_rfl) (by kernel_rfl) (by kernel_rfl) rfl ⟨Mono.eq _, Mono.eq _, Mono.eq _, Mono.eq _, Mono.eq _, Mono.eq _, Mono.eq _, Mono.eq _, Mono.eq _, Mono.eq _, Mono.eq _, Mono.eq _, Mono.eq _, Mono.eq _, Mono.eq _, Mono.eq _, Mono.eq _, Mono.eq _, trivial⟩ ?_ ?_
  · refine ⟨?_, ?_, ?_, ?_, ?_, ?_, ?_, ?_, ?_, ?_, ?_, ?_, ?_, ?_, ?_, ?_, ?_, ?_, trivial⟩
    · intro u w2 hb hF J K hJ hK
      have HB2 := Lib.hid hb
      have HF := Lib.hid hF
      clear hb hF
      go_wp2
      exact hJ _ _ _ (Below.refl _ _) (rfl) (by simp [setU] <;> omega)
    · intro u w2 hb hF J K hJ hK
      have HB2 := Lib.hid hb
      have HF := Lib.hid hF
      clear hb hF
      have f0 : u 0 = .pointer (some ⟨g, 4, none⟩) := HF.out 0 (by decide)
      have q4 := (HP1.out.ext HB2.out).cell (i := 4) rfl
      go_wp2
      exact hJ _ _ _ (Below.refl _ _) (rfl) (by simp [setU, f0] <;> omega)
    · intro u w2 hb hF J K hJ hK
      have HB2 := Lib.hid hb
      have HF := Lib.hid hF
      clear hb hF
      go_wp2
      exact hJ _ _ _ (Below.refl _ _) (rfl) (by simp [setU] <;> omega)
    · intro u w2 hb hF J K hJ hK
      have HB2 := Lib.hid hb
      have HF := Lib.hid hF
      clear hb hF
      have f2 : u 2 = .pointer (some ⟨g, 10, none⟩) := HF.out 2 (by decide)
      have q10 := (HP1.out.ext HB2.out).cell (i := 10) rfl
      go_wp2
      exact hJ _ _ _ (Below.refl _ _) (rfl) (by simp [setU, f2] <;> omega)
    · intro u w2 hb hF J K hJ hK
      have HB2 := Lib.hid hb
      have HF := Lib.hid hF
      clear hb hF
      have f3 : u 3 = .slice A n c := HF.out 3 (by decide)
      go_wp2
      exact hJ _ _ _ (Below.refl _ _) (rfl) (by simp [setU, f3] <;> omega)
    · intro u w2 hb hF J K hJ hK
      have HB2 := Lib.hid hb
      have HF := Lib.hid hF
      clear hb hF
      have f1 : u 1 = .int .u32 (q : Int) := HF.out 1 (by decide)
      have f4 : u 4 = .int .i64 (n : Int) := HF.out 4 (by decide)
      go_wp2
      exact hJ _ _ _ (Below.refl _ _) (rfl) (by simp [setU, f1, f4] <;> omega)
    · intro u w2 hb hF J K hJ hK
      have HB2 := Lib.hid hb
      have HF := Lib.hid hF
      clear hb hF
      go_wp2
      exact hJ _ _ _ (Below.refl _ _) (rfl) (by simp [setU] <;> omega)
    · intro u w2 hb hF J K hJ hK
      have HB2 := Lib.hid hb
      have HF := Lib.hid hF
      clear hb hF
      have f6 : u 6 = .pointer (some ⟨k, 0, none⟩) := HF.out 6 (by decide)
      go_wp2
      exact hJ _ _ _ (Below.refl _ _) (rfl) (by simp [setU, f6] <;> omega)
    · intro u w2 hb hF J K hJ hK
      have HB2 := Lib.hid hb
      have HF := Lib.hid hF
      clear hb hF
      have f7 : u 7 = .pointer (some ⟨k, 0, none⟩) := HF.out 7 (by decide)
      go_wp2
      exact hJ _ _ _ (Below.refl _ _) (rfl) (by simp [setU, f7] <;> omega)
    · intro u w2 hb hF J K hJ hK
      have HB2 := Lib.hid hb
      have HF := Lib.hid hF
      clear hb hF
      have f8 : u 8 = .pointer (some ⟨k, 14, none⟩) := HF.out 8 (by decide)
      go_wp2
      exact hJ _ _ _ (Below.refl _ _) (rfl) (by simp [setU, f8] <;> omega)
    · intro u w2 hb hF J K hJ hK
      have HB2 := Lib.hid hb
      have HF := Lib.hid hF
      clear hb hF
      have f9 : u 9 = .pointer (some ⟨k, 15, none⟩) := HF.out 9 (by decide)
      have c15 := (H1.out.ext HB2.out).cellH 15 (by decide) (fun _ _ => rfl)
      rw [HRV.out] at c15
      go_wp2
      exact hJ _ _ _ (Below.refl _ _) (rfl) (by simp [setU, f9] <;> omega)
    · intro u w2 hb hF J K hJ hK
      have HB2 := Lib.hid hb
      have HF := Lib.hid hF
      clear hb hF
      go_wp2
      exact hJ _ _ _ (Below.refl _ _) (rfl) (by simp [setU] <;> omega)
    · intro u w2 hb hF J K hJ hK
      have HB2 := Lib.hid hb
      have HF := Lib.hid hF
      clear hb hF
      have f5 : u 5 = .agg #[.int .u32 (q : Int), .int .i64 (n : Int)] := HF.out 5 (by decide)
      have f10 : u 10 = .int .u32 (rv : Int) := HF.out 10 (by decide)
      have f11 : u 11 = .int .i64 (wn : Int) := HF.out 11 (by decide)
      go_wp2_with (go_at_call 110; refine (HCL.out _).mono ?_; rintro e w3 ⟨rfl, hb⟩)
      have HB3 := Lib.hid hb; clear hb
      exact hJ _ _ _ (HB3.out) (rfl) (by simp [setU, f5, f10, f11] <;> omega)
    · intro u w2 hb hF J K hJ hK
      have HB2 := Lib.hid hb
      have HF := Lib.hid hF
      clear hb hF
      have f12 : u 12 = .tuple #[.int .i64 (C.1 : Int), .int .i64 (C.2 : Int)] := HF.out 12 (by decide)
      go_wp2
      exact hJ _ _ _ (Below.refl _ _) (rfl) (by simp [setU, f12] <;> omega)
    · intro u w2 hb hF J K hJ hK
      have HB2 := Lib.hid hb
      have HF := Lib.hid hF
      clear hb hF
      have f13 : u 13 = .tuple #[.int .i64 (C.1 : Int), .int .i64 (C.2 : Int)] := HF.out 13 (by decide)
      go_wp2
      exact hJ _ _ _ (Below.refl _ _) (rfl) (by simp [setU, f13] <;> omega)
    · intro u w2 hb hF J K hJ hK
      have HB2 := Lib.hid hb
      have HF := Lib.hid hF
      clear hb hF
      have f13 : u 13 = .tuple #[.int .i64 (C.1 : Int), .int .i64 (C.2 : Int)] := HF.out 13 (by decide)
      go_wp2
      exact hJ _ _ _ (Below.refl _ _) (rfl) (by simp [setU, f13] <;> omega)
    · intro u w2 hb hF J K hJ hK
      have HB2 := Lib.hid hb
      have HF := Lib.hid hF
      clear hb hF
      have f14 : u 14 = .int .i64 (C.1 : Int) := HF.out 14 (by decide)
      go_wp2
      exact hJ _ _ _ (Below.refl _ _) (rfl) (by simp [setU, f14] <;> omega)
    · intro u w2 hb hF J K hJ hK
      have HB2 := Lib.hid hb
      have HF := Lib.hid hF
      clear hb hF
      have f15 : u 15 = .int .i64 (C.2 : Int) := HF.out 15 (by decide)
      go_wp2
      exact hJ _ _ _ (Below.refl _ _) (rfl) (by simp [setU, f15] <;> omega)
  · intro u w2 hb hF
    have HB2 := Lib.hid hb
    have f16 : u 16 = .int .i64 (C.1 : Int) := hF 16 (by decide)
    have f17 : u 17 = .int .i64 (C.2 : Int) := hF 17 (by decide)
    clear hb hF
    have hb5 : Below w.heap.size w w2 := HB1.out.trans (HB2.out.mono HB1.out.size)
    have H5 : Hid (ConnIs N w2 k s vp) := Lib.hid (H1.out.ext HB2.out)
    have HP5 := Lib.hid (HP1.out.ext HB2.out)
    have HC5 : Hid (Chg k vp w w2) := Lib.hid (Chg.below hb5)
    clear HB2 hb5
    dsimp only
    rw [f16, f17]
    clear f16 f17
    generalize u = ur at *
    obtain ⟨C1, hC1⟩ : ∃ C1, C.1 = C1 := ⟨_, rfl⟩
    obtain ⟨C2, hC2⟩ : ∃ C2, C.2 = C2 := ⟨_, rfl⟩
    rw [hC1, hC2] at HK ⊢
    rw [hC1, hC2] at HAT
    clear HCL H1 HP1 HB1 hC1 hC2
    obtain ⟨l, hl0⟩ : ∃ l, (p.data.drop C1).take C2 = l := ⟨_, rfl⟩
    rw [hl0] at HK
    have HL := Lib.hid hl0
    have HKA : Hid (KeepAt N w k vp s g at0 l [.int .i64 p.src, .int .i64 p.dst, .int .i64 p.sp, .int .i64 p.dp, .int .u32 (q : Int), .int .u32 (p.ack : Int), .int .i64 p.fl, .int .i64 p.wn, .int .i64 p.pr, .int .i64 p.og, .slice A n c] 0 w2) := Lib.hid ⟨H5.out, HC5.out, HP5.out⟩
    clear hl0 H5 HC5 HP5
    have hC2 : C2 ≤ 1024 := by
      by_cases h0 : 0 < C2
      · have := (HAT.out 0 h0).2.1; omega
      · omega
    have hC1 : 0 < C2 → C1 + C2 ≤ n := fun h0 => (HAT.out 0 h0).2.2
    have HC1 := Lib.hid hC1
    clear hC1
    go_wp2_with fail
    go_loopg [30] C2 (fun gk v wr => ∃ j : Nat, v = .int .i64 (j : Int) ∧ j + gk = C2 ∧ Hid (KeepAt N w k vp s g at0 l [.int .i64 p.src, .int .i64 p.dst, .int .i64 p.sp, .int .i64 p.dp, .int .u32 (q : Int), .int .u32 (p.ack : Int), .int .i64 p.fl, .int .i64 p.wn, .int .i64 p.pr, .int .i64 p.og, .slice A n c] j wr))
    case atStart => exact ⟨0, rfl, by omega, HKA⟩
    case round =>
      obtain ⟨j, rfl, hjg, hka⟩ := hrel
      by_cases hj : j < C2
      · obtain ⟨hk1, hk2, hk3⟩ := hka.out
        have H6 := Lib.hid hk1
        have HC6 := Lib.hid hk2
        have HP6 := Lib.hid hk3
        obtain ⟨ha1, ha2, ha3⟩ := HAT.out j hj
        obtain ⟨at1, hat1⟩ : ∃ at1, at0 + j = at1 := ⟨_, rfl⟩
        rw [hat1] at ha1
        obtain ⟨ci, hci⟩ : ∃ ci, C1 + j = ci := ⟨_, rfl⟩
        rw [hci] at ha1
        have HA := Lib.hid (add_calls q ci hseq (by omega))
        have HD := Lib.hid (diff_calls (m32 (q + ci)) rv (m32_lt _) hr32)
        rw [ha1] at HD
        have hwci : IntKind.i64.wrap ((C1 : Int) + (j : Int)) = (ci : Int) := by rw [IntWalk.i64_in _ (by omega)]; omega
        have q4 := hk3.cell (i := 4) rfl
        have c15 := hk1.cellH 15 (by decide) (fun _ _ => rfl)
        rw [show ({ s with early := TS.setL s.early at0 (l.take j) } : TS).rnum s.rcv = s.rnum s.rcv from rfl, HRV.out] at c15
        clear hk1 hk2 hk3 ha1 hka
        go_upto_region 6 with fail
        go_quiet ((first | (go_at_call 108; refine Calls.quiet_of_same ((HA.out _).mono fun _ _ k => ⟨k.1, k.2.symm⟩)) | (go_at_call 98; refine Calls.quiet_of_same ((HD.out _).mono fun _ _ k => ⟨k.1, k.2.symm⟩))))
        go_upto_region 7 with fail
        refine name_world (fun W => Below wr.heap.size wr W) (ext_drewN (Below.refl _ _) _) ?_
        rintro w7 hb67
        have h7 := H6.out.ext hb67
        have hc7 : Chg k vp w w7 := HC6.out.trans (Chg.below hb67) (After.refl _ _)
        have hp7 := HP6.out.ext hb67
        have hrb := HRB.out.chg hc7 (fun h0 b o e => HAK.out (by rw [← HDL.out]; exact h0) b o e)
        have hcin : ci < n := by have := HC1.out (by omega); omega
        obtain ⟨b, o, hA, hcb⟩ := hrb ci (by rw [HDL.out]; exact hcin)
        have hbk := (HAK.out (by omega) b o hA).1
        have hat1' : at1 < 1024 := by omega
        obtain ⟨x, hx⟩ : ∃ x : UInt8, p.data[ci]? = some x := ⟨p.data[ci]'(by rw [HDL.out]; exact hcin), List.getElem?_eq_getElem _⟩
        have HXX := Lib.hid hx
        have hgx : (gb p.data ci : Int) = (x.toNat : Int) := by unfold gb; rw [List.getD_eq_getElem?_getD, hx]; rfl
        rw [hgx] at hcb
        have q10 := hp7.cell (i := 10) rfl
        obtain ⟨⟨y, e1⟩, e2⟩ := h7.cellE at1 hat1'
        have f1 := h7.frozen (17 + at1)
        have f2 := h7.frozen (1041 + at1)
        have HS7 := Lib.hid (h7.setE (by show (TS.setL s.early at0 (l.take j)).length = 1024; rw [TS.setL_len, HOK.out.early]) at1 hat1' x)
        have HC7 := Lib.hid hc7
        have HP7 := Lib.hid hp7
        have hkl7 := h7.lt.1
        have HAA := Lib.hid hA
        subst hA
        clear h7 hc7 hp7 hb67 hrb H6 HC6 HP6 hx hgx q4 c15
        have hwj : IntKind.i64.wrap ((j : Int) + 1) = ((j + 1 : Nat) : Int) := by rw [IntWalk.i64_in _ (by omega)]; omega
        have HNX : Hid (∀ W : World, Below w7.heap.size ((w7.setCell ⟨k, 17 + at1, none⟩ (vb x)).setCell ⟨k, 1041 + at1, none⟩ (.bool true)) W → KeepAt N w k vp s g at0 l [.int .i64 p.src, .int .i64 p.dst, .int .i64 p.sp, .int .i64 p.dp, .int .u32 (q : Int), .int .u32 (p.ack : Int), .int .i64 p.fl, .int .i64 p.wn, .int .i64 p.pr, .int .i64 p.og, .slice (some ⟨b, o, none⟩) n c] (j + 1) W) := Lib.hid fun W hW => by
          have hlj : l[j]? = some x := by rw [← HL.out, List.getElem?_take_of_lt hj, List.getElem?_drop, hci]; exact HXX.out
          have hlt : j < l.length := (List.getElem?_eq_some_iff.1 hlj).1
          have ht : l.take (j + 1) = l.take j ++ [x] := by rw [List.take_add_one, hlj]; rfl
          have hc : Chg k vp w7 ((w7.setCell ⟨k, 17 + at1, none⟩ (vb x)).setCell ⟨k, 1041 + at1, none⟩ (.bool true)) := (Chg.grown (grown_setCell _ _ _ _) (.inl rfl)).trans (Chg.grown (grown_setCell _ _ _ _) (.inl rfl)) (After.refl _ _)
          have hsz : ((w7.setCell ⟨k, 17 + at1, none⟩ (vb x)).setCell ⟨k, 1041 + at1, none⟩ (.bool true)).heap.size = w7.heap.size := by simp [World.setCell]
          have hW' : Below ((w7.setCell ⟨k, 17 + at1, none⟩ (vb x)).setCell ⟨k, 1041 + at1, none⟩ (.bool true)).heap.size ((w7.setCell ⟨k, 17 + at1, none⟩ (vb x)).setCell ⟨k, 1041 + at1, none⟩ (.bool true)) W := hsz.symm ▸ hW
          have hvg : vp.ownBlock ≠ some g := fun e => by have := (H.out.row e).2.2; have := HG.out; omega
          refine ⟨?_, HC7.out.trans (hc.trans (Chg.below hW') (After.refl _ _)) (After.refl _ _), (HP7.out.same (hc.block g HP7.out.lt (by omega) hvg)).ext hW'⟩
          rw [ht, TS.setL_snoc, List.length_take, Nat.min_eq_left (Nat.le_of_lt hlt), hat1]
          exact HS7.out.ext hW'
        go_region
        go_wp2_with fail
        go_roundg (gk - 1)
        case measure => omega
        case rel => exact ⟨j + 1, by first | rfl | (congr 1), by omega, Lib.hid (HNX.out _ (Below.refl _ _).drew)⟩
      · obtain rfl : j = C2 := by omega
        obtain ⟨hk1, hk2, hk3⟩ := hka.out
        have hll : l.take j = l := List.take_of_length_le (by rw [← HL.out, List.length_take]; omega)
        rw [hll] at hk1
        obtain ⟨d, hd⟩ : ∃ d, sd (m32 (q + n)) rv = d := ⟨_, rfl⟩
        have hdb := sd_bd (m32 (q + n)) rv
        rw [hd] at HK hdb
        have HA := Lib.hid (add_calls q n hseq (by omega))
        have HD := Lib.hid (diff_calls (m32 (q + n)) rv (m32_lt _) hr32)
        rw [hd] at HD
        have HDD := Lib.hid hd
        have q4 := hk3.cell (i := 4) rfl
        have q10 := hk3.cell (i := 10) rfl
        have q6 := hk3.cell (i := 6) rfl
        have c15 := hk1.cellH 15 (by decide) (fun _ _ => rfl)
        rw [show ({ s with early := TS.setL s.early at0 l } : TS).rnum s.rcv = s.rnum s.rcv from rfl, HRV.out] at c15
        have c2065 := hk1.cellT 0 (fun _ _ => rfl) 2065 rfl
        rw [show ({ s with early := TS.setL s.early at0 l } : TS).told = s.told from rfl] at c2065
        obtain ⟨fe, c2066, _⟩ := hk1.cellF
        have f2065 := hk1.frozen 2065
        have f2066 := hk1.frozen 2066
        have H6 := Lib.hid hk1
        have HC6 := Lib.hid hk2
        have hkl6 := hk1.lt.1
        clear hk1 hk2 hk3 hka hd hll
        go_wp2_with fail
        refine (HA.out _).mono ?_
        rintro e w8 ⟨rfl, rfl⟩
        go_wp2_with fail
        refine (HD.out _).mono ?_
        rintro e w8 ⟨rfl, rfl⟩
        obtain ⟨z, hz⟩ : ∃ z, bits .and .i64 p.fl 4 = z := ⟨_, rfl⟩
        have hF4 : hasF p 4 = decide (z ≠ 0) := by unfold hasF; rw [hz]
        have HF4 := Lib.hid hF4
        have hz' := hz
        clear hF4
        by_cases hz0 : z = 0
        · subst hz0
          have HX : Hid (s.keep p = { s with early := TS.setL s.early at0 l }) := Lib.hid (by rw [HK.out]; exact if_neg (fun h => by rw [HF4.out] at h; exact absurd h.1 (by decide)))
          go_wp2_with fail
          go_end0
          exact ⟨rfl, by rw [HX.out]; exact H6.out, HC6.out⟩
        · have ez : (z == 0) = false := beq_eq_false_iff_ne.2 hz0
          have ez' : (z != 0) = true := by simp [hz0]
          have HF5 : Hid (hasF p 4 = true) := Lib.hid (by rw [HF4.out]; exact decide_eq_true hz0)
          cases hto : s.told with
          | true =>
            rw [hto] at c2065
            have HTO := Lib.hid hto
            clear hto
            have HX : Hid (s.keep p = { s with early := TS.setL s.early at0 l }) := Lib.hid (by rw [HK.out]; exact if_neg (fun h => by rw [HTO.out] at h; exact absurd h.2.1 (by decide)))
            go_wp2_with fail
            go_end0
            exact ⟨rfl, by rw [HX.out]; exact H6.out, HC6.out⟩
          | false =>
            rw [hto] at c2065
            have HTO := Lib.hid hto
            clear hto
            by_cases hd0 : 0 ≤ d
            · by_cases hdw : d ≤ wn
              · have HX : Hid (s.keep p = { ({ s with early := TS.setL s.early at0 l } : TS) with told := true, fend := s.rcv + d.toNat }) := Lib.hid (by rw [HK.out]; exact if_pos ⟨HF5.out, HTO.out, hd0, hdw⟩)
                have hrn : s.rnum (s.rcv + d.toNat) = m32 (q + n) := by
                  have h1 := sd_add (m32 (q + n)) rv (m32_lt _) hr32 (by rw [HDD.out]; exact hd0)
                  rw [HDD.out] at h1
                  rw [← h1, ← HRV.out]
                  unfold TS.rnum m32
                  omega
                have HST := Lib.hid (H6.out.setTold (s.rcv + d.toNat))
                rw [show ({ s with early := TS.setL s.early at0 l } : TS).rnum (s.rcv + d.toNat) = s.rnum (s.rcv + d.toNat) from rfl, hrn] at HST
                clear hrn
                go_wp2_with fail
                go_end0
                exact ⟨rfl, by rw [HX.out]; exact HST.out, HC6.out.trans ((Chg.grown (grown_setCell _ _ _ _) (.inl rfl)).trans (Chg.grown (grown_setCell _ _ _ _) (.inl rfl)) (After.refl _ _)) (After.refl _ _)⟩
              · have hdw' : (wn : Int) < d := by omega
                have HX : Hid (s.keep p = { s with early := TS.setL s.early at0 l }) := Lib.hid (by rw [HK.out]; exact if_neg (fun h => hdw h.2.2.2))
                go_wp2_with fail
                go_end0
                exact ⟨rfl, by rw [HX.out]; exact H6.out, HC6.out⟩
            · have hd0' : d < 0 := by omega
              have HX : Hid (s.keep p = { s with early := TS.setL s.early at0 l }) := Lib.hid (by rw [HK.out]; exact if_neg (fun h => hd0 h.2.2.1))
              go_wp2_with fail
              go_end0
              exact ⟨rfl, by rw [HX.out]; exact H6.out, HC6.out⟩
end
end Go.Proofs.Ytjhnnnklfhbebaa
namespace Go.Proofs.Ytjhnnnklfhbebaa
open Go.RowKit
set_option linter.unusedVariables false
/-- The cells behind the first copy, the second one, and the clearing. -/
def eh1 (eh : List Value) (L : Nat) : List Value := (eh.drop L).take (1024 - L) ++ eh.drop (1024 - L)
def eh2 (eh : List Value) (L : Nat) : List Value := eh.take 1024 ++ ((eh.drop (1024 + L)).take (1024 - L) ++ eh.drop (1024 + (1024 - L)))
def eh3 (eh : List Value) (L : Nat) : List Value := eh.take (2048 - L) ++ List.replicate L (.bool false)
theorem eh1_len {eh : List Value} {L : Nat} (h : eh.length = 2048) (hL : L ≤ 1024) : (eh1 eh L).length = 2048 := by unfold eh1; simp [h]; omega
theorem eh2_len {eh : List Value} {L : Nat} (h : eh.length = 2048) (hL : L ≤ 1024) : (eh2 eh L).length = 2048 := by unfold eh2; simp [h]; omega
theorem eh3_len {eh : List Value} {L : Nat} (h : eh.length = 2048) (hL : L ≤ 1024) : (eh3 eh L).length = 2048 := by unfold eh3; simp [h]; omega
theorem eh1_get {eh : List Value} {L : Nat} (h : eh.length = 2048) (hL : L ≤ 1024) (i : Nat) : (eh1 eh L)[i]? = if i < 1024 - L then eh[L + i]? else eh[i]? := by
  have hl : ((eh.drop L).take (1024 - L)).length = 1024 - L := by simp [h]; omega
  unfold eh1
  by_cases hi : i < 1024 - L
  · rw [if_pos hi, List.getElem?_append_left (by omega), List.getElem?_take_of_lt hi, List.getElem?_drop]
  · rw [if_neg hi, List.getElem?_append_right (by omega), hl, List.getElem?_drop, show 1024 - L + (i - (1024 - L)) = i by omega]
theorem eh2_get {eh : List Value} {L : Nat} (h : eh.length = 2048) (hL : L ≤ 1024) (i : Nat) : (eh2 eh L)[i]? = if i < 1024 then eh[i]? else if i < 1024 + (1024 - L) then eh[L + i]? else eh[i]? := by
  have h0 : (eh.take 1024).length = 1024 := by simp [h]
  have hl : ((eh.drop (1024 + L)).take (1024 - L)).length = 1024 - L := by simp [h]; omega
  unfold eh2
  by_cases hi : i < 1024
  · rw [if_pos hi, List.getElem?_append_left (by omega), List.getElem?_take_of_lt hi]
  · rw [if_neg hi, List.getElem?_append_right (by omega), h0]
    by_cases hj : i < 1024 + (1024 - L)
    · rw [if_pos hj, List.getElem?_append_left (by omega), List.getElem?_take_of_lt (by omega), List.getElem?_drop, show 1024 + L + (i - 1024) = L + i by omega]
    · rw [if_neg hj, List.getElem?_append_right (by omega), hl, List.getElem?_drop, show 1024 + (1024 - L) + (i - 1024 - (1024 - L)) = i by omega]
theorem eh3_get {eh : List Value} {L : Nat} (h : eh.length = 2048) (hL : L ≤ 1024) (i : Nat) (hi2 : i < 2048) : (eh3 eh L)[i]? = if i < 2048 - L then eh[i]? else some (.bool false) := by
  have h0 : (eh.take (2048 - L)).length = 2048 - L := by simp [h]
  unfold eh3
  by_cases hi : i < 2048 - L
  · rw [if_pos hi, List.getElem?_append_left (by omega), List.getElem?_take_of_lt hi]
  · rw [if_neg hi, List.getElem?_append_right (by omega), h0, List.getElem?_replicate, if_pos (by omega)]
theorem EhIs.shift {early : List (Option UInt8)} {eh : List Value} (h : EhIs early eh) (hl : early.length = 1024) {L : Nat} (hL : L ≤ 1024) : EhIs (early.drop L ++ List.replicate L none) (eh3 (eh2 (eh1 eh L) L) L) := by
  obtain ⟨h1, h2⟩ := h
  have l1 := eh1_len h1 hL
  have l2 := eh2_len l1 hL
  refine ⟨eh3_len l2 hL, fun i hi => ?_⟩
  have hdl : (early.drop L).length = 1024 - L := by rw [List.length_drop, hl]
  by_cases hk : i < 1024 - L
  · obtain ⟨x, e1, e2, e3⟩ := h2 (L + i) (by omega)
    have hg : (early.drop L ++ List.replicate L none).getD i none = early.getD (L + i) none := by
      rw [List.getD_eq_getElem?_getD, List.getElem?_append_left (by omega), List.getElem?_drop, ← List.getD_eq_getElem?_getD]
    refine ⟨x, ?_, ?_, by rw [hg]; exact e3⟩
    · rw [eh3_get l2 hL _ (by omega), if_pos (by omega), eh2_get l1 hL, if_pos hi, eh1_get h1 hL, if_pos hk]
      exact e1
    · rw [eh3_get l2 hL _ (by omega), if_pos (by omega), eh2_get l1 hL, if_neg (by omega), if_pos (by omega), eh1_get h1 hL, if_neg (by omega), hg, show L + (1024 + i) = 1024 + (L + i) by omega]
      exact e2
  · obtain ⟨x, e1, e2, e3⟩ := h2 i hi
    have hg : (early.drop L ++ List.replicate L none).getD i none = none := by
      rw [List.getD_eq_getElem?_getD, List.getElem?_append_right (by omega), List.getElem?_replicate]
      split <;> rfl
    refine ⟨x, ?_, ?_, by rw [hg]; intro y hy; cases hy⟩
    · rw [eh3_get l2 hL _ (by omega), if_pos (by omega), eh2_get l1 hL, if_pos hi, eh1_get h1 hL, if_neg hk]
      exact e1
    · rw [eh3_get l2 hL _ (by omega), if_neg (by omega), hg]
      rfl
/-- An endpoint of which the cells of what came early are told as they stand. -/
def ConnE (N : Nat → Prop) (w : World) (k : Nat) (s : TS) (vp : Value) (eh : List Value) : Prop :=
  ∃ vo vi fe, BK w k 71 (s.cells vo vi vp fe eh) ∧ eh.length = 2048 ∧ fe < 4294967296 ∧ (s.told = true → fe = s.rnum s.fend) ∧
    SlN (NN N k vp) w vo s.out ∧ SlN (NN N k vp) w vi s.inn ∧ PackIs (NN N k vp) w vp s.pack ∧ ¬ N k ∧ (∀ b, vp.ownBlock = some b → ¬ N b ∧ b ≠ k)
section
variable {N : Nat → Prop} {w w' : World} {k : Nat} {s : TS} {vp : Value}
theorem ConnIs.toE (h : ConnIs N w k s vp) : ∃ eh, EhIs s.early eh ∧ ConnE N w k s vp eh := by
  obtain ⟨vo, vi, fe, eh, h1, h2, h3, h4, h5, h6, h7, h8, h9⟩ := h
  exact ⟨eh, h2, vo, vi, fe, h1, h2.1, h3, h4, h5, h6, h7, h8, h9⟩
theorem ConnE.toIs {eh : List Value} (h : ConnE N w k s vp eh) (early : List (Option UInt8)) (he : EhIs early eh) : ConnIs N w k { s with early := early } vp := by
  obtain ⟨vo, vi, fe, h1, h2, h3, h4, h5, h6, h7, h8, h9⟩ := h
  exact ⟨vo, vi, fe, eh, h1, he, h3, h4, h5, h6, h7, h8, h9⟩
theorem cells_splice (s : TS) (vo vi vp : Value) (fe : Nat) {eh cs : List Value} (off : Nat) (h : eh.length = 2048) (hc : off + cs.length ≤ 2048) :
    (s.cells vo vi vp fe eh).take (17 + off) ++ (cs ++ (s.cells vo vi vp fe eh).drop (17 + off + cs.length)) = s.cells vo vi vp fe (eh.take off ++ (cs ++ eh.drop (off + cs.length))) := by
  have hh := TS.hd_len s vo vi
  unfold TS.cells
  rw [List.take_append, List.drop_append, hh, List.take_of_length_le (by omega), List.drop_eq_nil_of_le (by omega), show 17 + off - 17 = off by omega, show 17 + off + cs.length - 17 = off + cs.length by omega, List.take_append, List.drop_append, h, show off - 2048 = 0 by omega, show off + cs.length - 2048 = 0 by omega]
  simp
/-- Its own block is another one. -/
theorem ConnE.block {eh eh' : List Value} (h : ConnE N w k s vp eh) (hg : w.grownBy w' (some k)) (hl : eh'.length = 2048) (hk : ∀ vo vi fe, BK w k 71 (s.cells vo vi vp fe eh) → BK w' k 71 (s.cells vo vi vp fe eh')) : ConnE N w' k s vp eh' := by
  obtain ⟨vo, vi, fe, h1, h2, h3, h4, h5, h6, h7, h8, h9⟩ := h
  exact ⟨vo, vi, fe, hk vo vi fe h1, hl, h3, h4, h5.grown hg (.inr (.inl rfl)), h6.grown hg (.inr (.inl rfl)), h7.grown hg (.inr (.inl rfl)) (fun e => (h9 k e).2 rfl), h8, h9⟩
end
end Go.Proofs.Ytjhnnnklfhbebaa
namespace Go.Proofs.Ytjhnnnklfhbebaa
open Go.RowKit
set_option linter.unusedVariables false
set_option linter.unusedSimpArgs false
/-- 'clear(s)', s within a block that is known whole. -/
theorem wpList_clear_k {P : Program} {w : World} {ops : Array Oper} {rest : List Oper} {o : Oper} {a : Act} {Q : Exit → Act → World → Prop} (hgd : o.guard = none) (s : Operand) (sT : TypeId)
    (ho : o.op = .call { callee := .builtin .clear, args := #[s], argTypes := #[sT] }) (elem : TypeId) (hu : P.underlying sT = some (.slice elem)) (z : Value) (hz : (P.info? elem).map (fun i => (i.zero, i.size)) = some (some z, 1)) (hzc : z.cells = #[z]) (h1 : z.oneCell' = true)
    (g off n c : Nat) (hs : a.eval s = .slice (some ⟨g, off, none⟩) n c) (hn : 0 < n) (cs : List Value) (t : TypeId) (hk : BK w g t cs) (hfit : off + n ≤ cs.length)
    (h : wpList P ops Q rest (a.put o.dst (.tuple #[])) (w.setCells g off (List.replicate n z))) : wpList P ops Q (o :: rest) a w := by
  refine wpList_plain hgd fun K hK => ?_
  have hv : ∀ w, (zeroValue elem).run P w = .ok z w := fun w => by
    cases hi : P.info? elem with
    | none => rw [hi] at hz; cases hz
    | some i =>
      rw [hi] at hz
      have hz0 : i.zero = some z := congrArg Prod.fst (Option.some.inj hz)
      simp [zeroValue, typeInfo, hi, hz0]
  have hrun := Lib.run_clear_slice (P := P) w sT elem o.type z hu hv hzc h1 g off n c hn (fun j hj => by
    have hlt : off + j < cs.length := by omega
    rw [hk.cell (List.getElem?_eq_getElem hlt)]
    rfl) (fun j _ => hk.frozen _)
  unfold Oper.wp
  simp [execOp, ho, resolve, invoke, builtin, hs, hrun, Result.andThen]
  exact hK _ _ h
theorem wpList_clear_nothing {P : Program} {w : World} {ops : Array Oper} {rest : List Oper} {o : Oper} {a : Act} {Q : Exit → Act → World → Prop} (hgd : o.guard = none) (s : Operand) (sT : TypeId)
    (ho : o.op = .call { callee := .builtin .clear, args := #[s], argTypes := #[sT] }) (elem : TypeId) (hu : P.underlying sT = some (.slice elem)) (A : Option Addr) (c : Nat) (hs : a.eval s = .slice A 0 c)
    (h : wpList P ops Q rest (a.put o.dst (.tuple #[])) w) : wpList P ops Q (o :: rest) a w := by
  refine wpList_plain hgd fun K hK => ?_
  have hrun : (Builtin.clear_ #[sT] o.type #[.slice A 0 c]).run P w = .ok (.tuple #[]) w := by
    cases A <;> simp [Builtin.clear_, run_underlying hu]
  unfold Oper.wp
  simp [execOp, ho, resolve, invoke, builtin, hs, hrun, Result.andThen]
  exact hK _ _ h
/-- A guard: the next operation is the builtin clear. -/
theorem at_clear {P : Program} {w : World} {ops : Array Oper} {rest : List Oper} {a : Act} {Q : Exit → Act → World → Prop} {d : Option Nat} {s : Operand} {sT ty : TypeId} {pos} {aft}
    (h : wpList P ops Q ({ dst := d, op := .call { callee := .builtin .clear, args := #[s], argTypes := #[sT] }, type := ty, pos := pos, after := aft, guard := none } :: rest) a w) :
    wpList P ops Q ({ dst := d, op := .call { callee := .builtin .clear, args := #[s], argTypes := #[sT] }, type := ty, pos := pos, after := aft, guard := none } :: rest) a w := h
theorem TS.lead_none {s : TS} {k : Nat} {l : List (Option UInt8)} (h : l[k]?.getD none = none) : s.lead k (l.drop k) = k := by
  cases hd : l.drop k with
  | nil => rfl
  | cons a r =>
    have e : l[k]? = some a := by
      have := congrArg (·[0]?) hd
      simpa [List.getElem?_drop] using this
    rw [e] at h
    have : a = none := h
    subst this
    rfl
theorem TS.lead_some {s : TS} {k : Nat} {l : List (Option UInt8)} {x : UInt8} (h : l[k]?.getD none = some x) : s.lead k (l.drop k) = if s.told = true ∧ s.rcv + k = s.fend then k else s.lead (k + 1) (l.drop (k + 1)) := by
  have hk : l[k]? = some (some x) := by
    cases e : l[k]? with
    | none => rw [e] at h; cases h
    | some a => rw [e] at h; exact congrArg some h
  obtain ⟨hlt, he⟩ := List.getElem?_eq_some_iff.1 hk
  rw [List.drop_eq_getElem_cons hlt, he]
  rfl
theorem TS.lead_all {s : TS} : ∀ (l : List (Option UInt8)) (k j : Nat), k + j < s.lead k l → (l[j]?.getD none).isSome = true
  | [], k, j, h => by
    have : s.lead k [] = k := rfl
    omega
  | none :: r, k, j, h => by
    have : s.lead k (none :: r) = k := rfl
    omega
  | some x :: r, k, j, h => by
    have e : s.lead k (some x :: r) = if s.told = true ∧ s.rcv + k = s.fend then k else s.lead (k + 1) r := rfl
    rw [e] at h
    split at h
    · omega
    · cases j with
      | zero => rfl
      | succ j => exact TS.lead_all (s := s) r (k + 1) j (by omega)
section
variable {N : Nat → Prop} {w : World} {k : Nat} {s : TS} {vp : Value}
set_option maxRecDepth 100000 in
set_option maxHeartbeats 2000000 in
theorem fill_calls (h : ConnIs N w k s vp) (hN : ∀ b, N b → b < w.heap.size) (hb : s.Ok) (hf : s.fin = false) :
    Calls Try.prog 105 #[.pointer (some ⟨k, 0, none⟩)] w fun e w' => e = .returned (.tuple #[]) ∧ ConnIs N w' k s.fill vp ∧ Chg k vp w w' := by
  obtain ⟨L, hL⟩ : ∃ L, s.lead 0 s.early = L := ⟨_, rfl⟩
  have HFI : Hid (s.fill = if s.told = true ∧ s.rcv + L = s.fend then { s with inn := s.inn ++ (s.early.take L).map (·.getD 0), early := s.early.drop L ++ List.replicate L none, rcv := s.rcv + L + 1, fin := true } else { s with inn := s.inn ++ (s.early.take L).map (·.getD 0), early := s.early.drop L ++ List.replicate L none, rcv := s.rcv + L }) := Lib.hid (by subst hL; rfl)
  obtain ⟨fe, c2066, hfe, hft⟩ := h.cellF
  have c2065 := h.cellT 0 (fun _ _ => rfl) 2065 rfl
  have c15 := h.cellH 15 (by decide) (fun _ _ => rfl)
  obtain ⟨rv, hrv⟩ : ∃ rv, s.rnum s.rcv = rv := ⟨_, rfl⟩
  have hr32 : rv < 4294967296 := by rw [← hrv]; exact m32_lt _
  rw [hrv] at c15
  have hend : ∀ n, n ≤ 1024 → s.told = true → ((m32 (rv + n) = fe) ↔ s.rcv + n = s.fend) := fun n hn ht => by
    have h1 := hb.fe ht hf
    have h2 : s.window ≤ 1024 := by unfold TS.window; omega
    rw [hft ht, ← hrv]
    unfold TS.rnum m32
    omega
  have HEND := Lib.hid hend
  have H := Lib.hid h
  have HN := Lib.hid hN
  have HOK := Lib.hid hb
  have HRV := Lib.hid hrv
  have hel := hb.early
  have HEL := Lib.hid hel
  have hkl := h.lt.1
  have HL := Lib.hid hL
  have HF0 := Lib.hid hf
  clear h hN hb hrv hel hL hend hft hf
  go_enter Try.func105, Try.ntmps105
  go_upto_block 0 with fail
  go_cut [2] from 2 to 38 (fun v wc => v = .int .i64 (L : Int) ∧ L ≤ 1024 ∧ Below w.heap.size w wc)
  case first =>
    go_wp2_with fail
    go_loopg [2] 1024 (fun gk v wr => ∃ n : Nat, v = .int .i64 (n : Int) ∧ n + gk = 1024 ∧ Hid (s.lead n (s.early.drop n) = L) ∧ Below w.heap.size w wr)
    case atStart => exact ⟨0, rfl, rfl, HL, Below.refl _ _⟩
    case round =>
      obtain ⟨n, rfl, hng, HLN, hbw⟩ := hrel
      have h1 := H.out.ext hbw
      have c15 : wr.cell? ⟨k, 15, none⟩ = some (.int .u32 (rv : Int)) := (hbw.cell hkl).trans c15
      have c2065 : wr.cell? ⟨k, 2065, none⟩ = some (.bool s.told) := (hbw.cell hkl).trans c2065
      have c2066 : wr.cell? ⟨k, 2066, none⟩ = some (.int .u32 (fe : Int)) := (hbw.cell hkl).trans c2066
      have HBW := Lib.hid hbw
      clear hbw
      by_cases hn : n < 1024
      · have hni : (n : Int) < 1024 := by omega
        have hwn : IntKind.i64.wrap ((n : Int) + 1) = ((n + 1 : Nat) : Int) := by rw [IntWalk.i64_in _ (by omega)]; omega
        obtain ⟨⟨y, e1⟩, e2⟩ := h1.cellE n hn
        rw [List.getD_eq_getElem?_getD] at e2
        cases hx : s.early[n]?.getD none with
        | none =>
          rw [hx] at e2
          have e2 : wr.cell? ⟨k, 1041 + n, none⟩ = some (.bool false) := e2
          have HX : Hid (L = n) := Lib.hid (HLN.out.symm.trans (TS.lead_none hx))
          clear h1 e1 hx
          go_upto_region 1 with fail
          go_quiet (fail)
          go_wp2_with fail
          go_meet
          case rel => exact ⟨by rw [HX.out], by rw [HX.out]; omega, HBW.out.trans (ext_drewN (Below.refl _ _) _)⟩
        | some x =>
          rw [hx] at e2
          have e2 : wr.cell? ⟨k, 1041 + n, none⟩ = some (.bool true) := e2
          have HS := Lib.hid (HLN.out.symm.trans (TS.lead_some hx))
          have HAD := Lib.hid (add_calls rv n hr32 (by omega))
          clear h1 e1 hx
          cases hto : s.told with
          | false =>
            have HX : Hid (s.lead (n + 1) (s.early.drop (n + 1)) = L) := Lib.hid (by rw [HS.out]; exact (if_neg (fun h => by rw [hto] at h; exact absurd h.1 (by decide))).symm)
            rw [hto] at c2065
            clear hto
            go_upto_region 1 with fail
            go_quiet (fail)
            go_wp2_with fail
            go_roundg (gk - 1)
            case measure => omega
            case rel => exact ⟨n + 1, by first | rfl | (congr 1), by omega, HX, HBW.out.trans (ext_drewN (Below.refl _ _) _)⟩
          | true =>
            rw [hto] at c2065
            by_cases he : s.rcv + n = s.fend
            · have HX : Hid (L = n) := Lib.hid (by rw [HS.out]; exact if_pos ⟨hto, he⟩)
              have hm : m32 (rv + n) = fe := (HEND.out n (by omega) hto).2 he
              rw [hm] at HAD
              clear hto he hm
              go_upto_region 1 with fail
              go_quiet ((go_at_call 108; refine Calls.quiet_of_same ((HAD.out _).mono fun _ _ k => ⟨k.1, k.2.symm⟩)))
              go_wp2_with fail
              go_meet
              case rel => exact ⟨by rw [HX.out], by rw [HX.out]; omega, HBW.out.trans (ext_drewN (Below.refl _ _) _)⟩
            · have HX : Hid (s.lead (n + 1) (s.early.drop (n + 1)) = L) := Lib.hid (by rw [HS.out]; exact (if_neg (fun h => he h.2)).symm)
              have hm : m32 (rv + n) ≠ fe := fun e => he ((HEND.out n (by omega) hto).1 e)
              have eme : ((m32 (rv + n) : Int) == (fe : Int)) = false := beq_eq_false_iff_ne.2 (by omega)
              clear hto he hm
              go_upto_region 1 with fail
              go_quiet ((go_at_call 108; refine Calls.quiet_of_same ((HAD.out _).mono fun _ _ k => ⟨k.1, k.2.symm⟩)))
              go_wp2_with fail
              go_roundg (gk - 1)
              case measure => omega
              case rel => exact ⟨n + 1, by first | rfl | (congr 1), by omega, HX, HBW.out.trans (ext_drewN (Below.refl _ _) _)⟩
      · obtain rfl : n = 1024 := by omega
        have HX : Hid (L = 1024) := Lib.hid (HLN.out.symm.trans (TS.lead_none (by rw [List.getElem?_eq_none (by rw [HEL.out]; omega)]; rfl)))
        go_upto_region 1 with fail
        go_quiet (fail)
        go_wp2_with fail
        go_meet
        case rel => exact ⟨by rw [HX.out], by rw [HX.out]; omega, HBW.out.trans (ext_drewN (Below.refl _ _) _)⟩
  case rest =>
    obtain ⟨rfl, hL2, hbw⟩ := hcut
    obtain ⟨w1, rfl⟩ : ∃ w1, w1 = wc := ⟨_, rfl⟩
    have h1 := H.out.ext hbw
    have HC1 : Hid (Chg k vp w w1) := Lib.hid (Chg.below hbw)
    obtain ⟨A0, c0, c16, k1, k2, k3, k4⟩ := h1.cellI
    obtain ⟨i, hi⟩ : ∃ i, s.inn.length = i := ⟨_, rfl⟩
    have hinn := HOK.out.inn
    rw [hi] at c16 k1 hinn
    obtain ⟨b, hb0⟩ : ∃ b, (s.early.take L).map (·.getD 0) = b := ⟨_, rfl⟩
    have hbl : b.length = L := by rw [← hb0, List.length_map, List.length_take, HEL.out]; omega
    have hRB : RB w1 (some ⟨k, 17, none⟩) b := fun j hj => by
      rw [hbl] at hj
      obtain ⟨vo, vi, fe, eh, g1, g2, _⟩ := h1
      obtain ⟨x, e1, _, e3⟩ := g2.2 j (by omega)
      have hs := TS.lead_all (s := s) s.early 0 j (by rw [HL.out]; omega)
      obtain ⟨y, hy⟩ := Option.isSome_iff_exists.1 hs
      have hxy := e3 y (by rw [List.getD_eq_getElem?_getD]; exact hy)
      refine ⟨k, 17, rfl, (g1.cell ((get_eh (TS.hd_len _ _ _) g2.1 j (by omega)).trans e1)).trans ?_⟩
      have hbj : b[j]? = some y := by
        rw [← hb0, List.getElem?_map, List.getElem?_take_of_lt hj]
        cases he : s.early[j]? with
        | none => rw [he] at hy; cases hy
        | some z => rw [he] at hy; have : z = some y := hy; subst this; rfl
      unfold gb
      rw [List.getD_eq_getElem?_getD, hbj, hxy]
      rfl
    have HRB := Lib.hid hRB
    have HB0 := Lib.hid hb0
    have HBL := Lib.hid hbl
    have HIL := Lib.hid hi
    have K3 := Lib.hid k3
    have H1 := Lib.hid h1
    have hkl1 := h1.lt.1
    obtain ⟨S, hS⟩ : ∃ S, w1.heap.size = S := ⟨_, rfl⟩
    have HS := Lib.hid hS
    have HNS : Hid (∀ b, NN N k vp b → b < S) := Lib.hid fun b hb => by
      rcases hb with hb | hb | hb
      · exact hS ▸ Nat.lt_of_lt_of_le (HN.out b hb) hbw.size
      · rw [hb]; omega
      · exact hS ▸ h1.lt.2 b hb
    have HI0 : Hid (Below S w1 w1.drew) := Lib.hid (Below.refl _ _).drew
    have HFIN : Hid (∀ (W : World) (v : Value), Below S w1 W → OwnB S 5 W v (s.inn ++ b) → ConnIs N (W.setCell ⟨k, 16, none⟩ v) k { s with inn := s.inn ++ b } vp ∧ Chg k vp w1 (W.setCell ⟨k, 16, none⟩ v)) := Lib.hid fun W v hB hO => by
      have hB' : Below w1.heap.size w1 W := HS.out.symm ▸ hB
      exact ⟨(H1.out.ext hB').setI { s with inn := s.inn ++ b } v (SlN.of_own hO HNS.out) (fun _ _ => rfl) (fun _ _ => rfl) rfl rfl rfl (fun e => ⟨e, rfl⟩), (Chg.below hB').trans (Chg.grown (grown_setCell _ _ _ _) (.inl rfl)) (After.refl _ _)⟩
    clear hRB hb0 hbl hi k3 k4 h1 hbw hS c2066 c2065 c15
    go_upto_region 3 with fail

    refine wp_region_new [[], [], [1], [1, 2], [1, 2, 3], [1, 2, 3, 4], [1, 2, 3, 4, 5], [], [7], [7, 8], [7, 8, 9], [], [7, 8, 9, 10, 11], [1, 2, 3, 4, 5, 6, 7, 8, 9, 10, 11, 12], [0], [0, 14], [0, 14, 15], [0, 1, 2, 3, 4, 5, 6, 7, 8, 9, 10, 11, 12, 13, 14, 15, 16]]
      [fun u _ => u = .pointer (some ⟨k, 0, none⟩),
       fun u _ => u = .pointer (some ⟨k, 0, none⟩),
       fun u _ => u = .pointer (some ⟨k, 0, none⟩),
       fun u _ => u = .pointer (some ⟨k, 14, none⟩),
       fun u _ => u = .pointer (some ⟨k, 16, none⟩),
       fun u _ => u = .slice A0 i c0,
       fun u w => ClonedAt S s.inn i u w,
       fun u _ => u = .pointer (some ⟨k, 0, none⟩),
       fun u _ => u = .pointer (some ⟨k, 0, none⟩),
       fun u _ => u = .pointer (some ⟨k, 14, none⟩),
       fun u _ => u = .pointer (some ⟨k, 17, none⟩),
       fun u _ => u = .int .i64 (L : Int),
       fun u _ => u = .slice (some ⟨k, 17, none⟩) L 1024,
       fun u w => OwnB S 5 w u (s.inn ++ b),
       fun u _ => u = .pointer (some ⟨k, 0, none⟩),
       fun u _ => u = .pointer (some ⟨k, 14, none⟩),
       fun u _ => u = .pointer (some ⟨k, 16, none⟩)]
      (fun u => ⟨#[Value.pointer (some { block := k, off := 0 }), undef, Value.int IntKind.i64 (L : Int), u3, u4, u5, u6, u7, u8, u9, u10, u11, u12, u13, u14, u15, u16, u17, u18, u19, u20, u21, u22, u23, u24, u25, u26, u27, u28, u29, u30, u31, u32, u33, u34, u35, u36, u37, u38, u 0, u 1, u 2, u 3, u 4, u 5, u 6, u 7, u 8, u 9, u 10, u 11, u 12, u 13, u 14, u 15, u 16, undef, undef, undef, undef, undef, undef, undef, undef, undef, undef, undef, undef, undef, undef, undef, undef, undef, undef, undef, undef, undef, undef, undef, undef, undef, undef, undef, undef, undef, undef, undef, undef, undef, undef, undef, undef, undef, undef, undef, undef, undef, undef, undef, undef, undef, undef, undef, undef, undef, undef, undef, undef, undef, undef, undef, undef, undef, undef, undef, undef, undef, undef, undef, undef, undef, undef, undef, undef, undef, undef, undef, undef, undef], []⟩)
      (fun W => Below S w1 W) (fun _ => True) [6] 13 17 (fun _ W => ConnIs N W k { s with inn := s.inn ++ b } vp ∧ Chg k vp w1 W) (fun j => [undef, undef, undef, undef, undef, undef, undef, undef, undef, undef, undef, undef, undef, undef, undef, undef, undef, undef].getD j undef) (by kernel_rfl) (by kernel_rfl) (by kernel_rfl) rfl (by kernel_rfl) (Nat.le_of_eq rfl) ⟨Mono.eq _, Mono.eq _, Mono.eq _, Mono.eq _, Mono.eq _, Mono.eq _, ClonedAt.mono _ _ _, Mono.eq _, Mono.eq _, Mono.eq _, Mono.eq _, Mono.eq _, Mono.eq _, OwnU.mono _ _, Mono.eq _, Mono.eq _, Mono.eq _, trivial⟩ ⟨.inr (.inr (.inr (MonoS.eq _ _))), ⟨.inr (.inr (.inr (MonoS.eq _ _))), ⟨.inr (.inr (.inr (MonoS.eq _ _))), ⟨.inr (.inr (.inr (MonoS.eq _ _))), ⟨.inr (.inr (.inr (MonoS.eq _ _))), ⟨.inr (.inr (.inr (MonoS.eq _ _))), ⟨.inr (.inr (.inl rfl)), ⟨.inr (.inr (.inr (MonoS.eq _ _))), ⟨.inr (.inr (.inr (MonoS.eq _ _))), ⟨.inr (.inr (.inr (MonoS.eq _ _))), ⟨.inr (.inr (.inr (MonoS.eq _ _))), ⟨.inr (.inr (.inr (MonoS.eq _ _))), ⟨.inr (.inr (.inr (MonoS.eq _ _))), ⟨.inl rfl, ⟨.inr (.inr (.inr (MonoS.eq _ _))), ⟨.inr (.inr (.inr (MonoS.eq _ _))), ⟨.inr (.inr (.inr (MonoS.eq _ _))), trivial⟩⟩⟩⟩⟩⟩⟩⟩⟩⟩⟩⟩⟩⟩⟩⟩⟩
      (fun _ _ _ h => h) (fun _ _ _ h => h) (HI0.out) (trivial) ?_ ?_
    · refine ⟨?_, ?_, ?_, ?_, ?_, ?_, ?_, ?_, ?_, ?_, ?_, ?_, ?_, ?_, ?_, ?_, ?_, ?_, trivial⟩
      · intro u w2 hb hS hG hF hU J K hJ hK
        have HB2 := Lib.hid hb
        have HS2 := Lib.hid hS
        have HG2 := Lib.hid hG
        have HF := Lib.hid hF
        clear hb hF hS hG hU
        go_wp2
        exact hJ _ _ _ (Nat.le_refl _) (fun _ => ⟨HB2.out, fun _ => Below.refl _ _, fun h => absurd h (by decide), rfl⟩) (fun h => absurd h (by decide)) (by simp [setU] <;> omega)
      · intro u w2 hb hS hG hF hU J K hJ hK
        have HB2 := Lib.hid hb
        have HS2 := Lib.hid hS
        have HG2 := Lib.hid hG
        have HF := Lib.hid hF
        clear hb hF hS hG hU
        go_wp2
        exact hJ _ _ _ (Nat.le_refl _) (fun _ => ⟨HB2.out, fun _ => Below.refl _ _, fun h => absurd h (by decide), rfl⟩) (fun h => absurd h (by decide)) (by simp [setU] <;> omega)
      · intro u w2 hb hS hG hF hU J K hJ hK
        have HB2 := Lib.hid hb
        have HS2 := Lib.hid hS
        have HG2 := Lib.hid hG
        have HF := Lib.hid hF
        clear hb hF hS hG hU
        have f1 : u 1 = .pointer (some ⟨k, 0, none⟩) := HF.out 1 (by decide) (by decide)
        go_wp2
        exact hJ _ _ _ (Nat.le_refl _) (fun _ => ⟨HB2.out, fun _ => Below.refl _ _, fun h => absurd h (by decide), rfl⟩) (fun h => absurd h (by decide)) (by simp [setU, f1] <;> omega)
      · intro u w2 hb hS hG hF hU J K hJ hK
        have HB2 := Lib.hid hb
        have HS2 := Lib.hid hS
        have HG2 := Lib.hid hG
        have HF := Lib.hid hF
        clear hb hF hS hG hU
        have f2 : u 2 = .pointer (some ⟨k, 0, none⟩) := HF.out 2 (by decide) (by decide)
        go_wp2
        exact hJ _ _ _ (Nat.le_refl _) (fun _ => ⟨HB2.out, fun _ => Below.refl _ _, fun h => absurd h (by decide), rfl⟩) (fun h => absurd h (by decide)) (by simp [setU, f2] <;> omega)
      · intro u w2 hb hS hG hF hU J K hJ hK
        have HB2 := Lib.hid hb
        have HS2 := Lib.hid hS
        have HG2 := Lib.hid hG
        have HF := Lib.hid hF
        clear hb hF hS hG hU
        have f3 : u 3 = .pointer (some ⟨k, 14, none⟩) := HF.out 3 (by decide) (by decide)
        go_wp2
        exact hJ _ _ _ (Nat.le_refl _) (fun _ => ⟨HB2.out, fun _ => Below.refl _ _, fun h => absurd h (by decide), rfl⟩) (fun h => absurd h (by decide)) (by simp [setU, f3] <;> omega)
      · intro u w2 hb hS hG hF hU J K hJ hK
        have HB2 := Lib.hid hb
        have HS2 := Lib.hid hS
        have HG2 := Lib.hid hG
        have HF := Lib.hid hF
        clear hb hF hS hG hU
        have f4 : u 4 = .pointer (some ⟨k, 16, none⟩) := HF.out 4 (by decide) (by decide)
        have cc := ((HS.out.symm ▸ HB2.out : Below w1.heap.size w1 w2).cell (World.block_lt_of_cell? _ _ c16)).trans c16
        go_wp2
        exact hJ _ _ _ (Nat.le_refl _) (fun _ => ⟨HB2.out, fun _ => Below.refl _ _, fun h => absurd h (by decide), rfl⟩) (fun h => absurd h (by decide)) (by simp [setU, f4] <;> omega)
      · intro u w2 hb hS hG hF hU J K hJ hK
        have HB2 := Lib.hid hb
        have HS2 := Lib.hid hS
        have HG2 := Lib.hid hG
        have HF := Lib.hid hF
        clear hb hF hS hG hU
        have f5 : u 5 = .slice A0 i c0 := HF.out 5 (by decide) (by decide)
        go_wp2_with (go_at_call 64; refine (clone_k A0 c0 i s.inn HIL.out w2 (K3.out.ext (HS.out.symm ▸ HB2.out)) (by omega)).mono ?_; rintro e w3 ⟨R, d, rfl, hd1, hd2, ho, hb⟩)
        have HO3 := Lib.hid ho; have HB3 := Lib.hid hb; clear ho hb
        exact hJ _ _ _ (HB3.out.size) (fun _ => ⟨HB2.out.trans (HB3.out.mono (HS.out ▸ HS2.out)), fun _ => HB3.out, fun h => absurd h (by decide), ⟨_, _, rfl, hd1, hd2, OwnB.mono HO3.out (HS.out ▸ HS2.out)⟩⟩) (fun h => absurd h (by decide)) (by simp [setU, f5] <;> omega)
      · intro u w2 hb hS hG hF hU J K hJ hK
        have HB2 := Lib.hid hb
        have HS2 := Lib.hid hS
        have HG2 := Lib.hid hG
        have HF := Lib.hid hF
        clear hb hF hS hG hU
        go_wp2
        exact hJ _ _ _ (Nat.le_refl _) (fun _ => ⟨HB2.out, fun _ => Below.refl _ _, fun h => absurd h (by decide), rfl⟩) (fun h => absurd h (by decide)) (by simp [setU] <;> omega)
      · intro u w2 hb hS hG hF hU J K hJ hK
        have HB2 := Lib.hid hb
        have HS2 := Lib.hid hS
        have HG2 := Lib.hid hG
        have HF := Lib.hid hF
        clear hb hF hS hG hU
        have f7 : u 7 = .pointer (some ⟨k, 0, none⟩) := HF.out 7 (by decide) (by decide)
        go_wp2
        exact hJ _ _ _ (Nat.le_refl _) (fun _ => ⟨HB2.out, fun _ => Below.refl _ _, fun h => absurd h (by decide), rfl⟩) (fun h => absurd h (by decide)) (by simp [setU, f7] <;> omega)
      · intro u w2 hb hS hG hF hU J K hJ hK
        have HB2 := Lib.hid hb
        have HS2 := Lib.hid hS
        have HG2 := Lib.hid hG
        have HF := Lib.hid hF
        clear hb hF hS hG hU
        have f8 : u 8 = .pointer (some ⟨k, 0, none⟩) := HF.out 8 (by decide) (by decide)
        go_wp2
        exact hJ _ _ _ (Nat.le_refl _) (fun _ => ⟨HB2.out, fun _ => Below.refl _ _, fun h => absurd h (by decide), rfl⟩) (fun h => absurd h (by decide)) (by simp [setU, f8] <;> omega)
      · intro u w2 hb hS hG hF hU J K hJ hK
        have HB2 := Lib.hid hb
        have HS2 := Lib.hid hS
        have HG2 := Lib.hid hG
        have HF := Lib.hid hF
        clear hb hF hS hG hU
        have f9 : u 9 = .pointer (some ⟨k, 14, none⟩) := HF.out 9 (by decide) (by decide)
        go_wp2
        exact hJ _ _ _ (Nat.le_refl _) (fun _ => ⟨HB2.out, fun _ => Below.refl _ _, fun h => absurd h (by decide), rfl⟩) (fun h => absurd h (by decide)) (by simp [setU, f9] <;> omega)
      · intro u w2 hb hS hG hF hU J K hJ hK
        have HB2 := Lib.hid hb
        have HS2 := Lib.hid hS
        have HG2 := Lib.hid hG
        have HF := Lib.hid hF
        clear hb hF hS hG hU
        go_wp2
        exact hJ _ _ _ (Nat.le_refl _) (fun _ => ⟨HB2.out, fun _ => Below.refl _ _, fun h => absurd h (by decide), rfl⟩) (fun h => absurd h (by decide)) (by simp [setU] <;> omega)
      · intro u w2 hb hS hG hF hU J K hJ hK
        have HB2 := Lib.hid hb
        have HS2 := Lib.hid hS
        have HG2 := Lib.hid hG
        have HF := Lib.hid hF
        clear hb hF hS hG hU
        have f10 : u 10 = .pointer (some ⟨k, 17, none⟩) := HF.out 10 (by decide) (by decide)
        have f11 : u 11 = .int .i64 (L : Int) := HF.out 11 (by decide) (by decide)
        have hLi : ((L : Nat) : Int) ≤ 1024 := by omega
        go_wp2
        exact hJ _ _ _ (Nat.le_refl _) (fun _ => ⟨HB2.out, fun _ => Below.refl _ _, fun h => absurd h (by decide), rfl⟩) (fun h => absurd h (by decide)) (by simp [setU, f10, f11] <;> omega)
      · intro u w2 hb hS hG hF hU J K hJ hK
        have HB2 := Lib.hid hb
        have HS2 := Lib.hid hS
        have HG2 := Lib.hid hG
        have HF := Lib.hid hF
        clear hb hF hS hG hU
        have f12 : u 12 = .slice (some ⟨k, 17, none⟩) L 1024 := HF.out 12 (by decide) (by decide)
        obtain ⟨R, d, f6, hd1, hd2, ho⟩ := HF.out 6 (by decide) (by decide)
        have HO3 := Lib.hid ho; clear ho
        have hsz : S ≤ w2.heap.size := HS.out ▸ HS2.out
        have HRB2 : Hid (RB w2 (some ⟨k, 17, none⟩) b) := Lib.hid (HRB.out.ext (HS.out.symm ▸ HB2.out))
        dsimp only
        rw [f6, f12]
        go_wp2_with ((with_reducible refine (?_ : wpList _ _ _ (_ :: _) _ _)); at_builtin; refine wpList_appB rfl _ _ 30 rfl S 5 Try.underlying30 infoB _ (s.inn) rfl HO3.out _ _ _ b rfl HBL.out HRB2.out (by rw [HBL.out, HIL.out]; omega) hsz ?_)
        intro v3 w3 ho3 hg3 _
        have HO4 := Lib.hid ho3; have HG3 := Lib.hid hg3; clear ho3 hg3
        go_wp2
        exact hJ _ _ _ (HG3.out.size) (fun _ => ⟨HO3.out.below HB2.out HG3.out hsz, fun h => absurd rfl h, fun _ => HS.out.symm ▸ HO3.out.below (Below.refl _ _) HG3.out hsz, HO4.out⟩) (fun h => absurd h (by decide)) (by simp [setU, f6, f12] <;> omega)
      · intro u w2 hb hS hG hF hU J K hJ hK
        have HB2 := Lib.hid hb
        have HS2 := Lib.hid hS
        have HG2 := Lib.hid hG
        have HF := Lib.hid hF
        clear hb hF hS hG hU
        have f0 : u 0 = .pointer (some ⟨k, 0, none⟩) := HF.out 0 (by decide) (by decide)
        go_wp2
        exact hJ _ _ _ (Nat.le_refl _) (fun _ => ⟨HB2.out, fun _ => Below.refl _ _, fun h => absurd h (by decide), rfl⟩) (fun h => absurd h (by decide)) (by simp [setU, f0] <;> omega)
      · intro u w2 hb hS hG hF hU J K hJ hK
        have HB2 := Lib.hid hb
        have HS2 := Lib.hid hS
        have HG2 := Lib.hid hG
        have HF := Lib.hid hF
        clear hb hF hS hG hU
        have f14 : u 14 = .pointer (some ⟨k, 0, none⟩) := HF.out 14 (by decide) (by decide)
        go_wp2
        exact hJ _ _ _ (Nat.le_refl _) (fun _ => ⟨HB2.out, fun _ => Below.refl _ _, fun h => absurd h (by decide), rfl⟩) (fun h => absurd h (by decide)) (by simp [setU, f14] <;> omega)
      · intro u w2 hb hS hG hF hU J K hJ hK
        have HB2 := Lib.hid hb
        have HS2 := Lib.hid hS
        have HG2 := Lib.hid hG
        have HF := Lib.hid hF
        clear hb hF hS hG hU
        have f15 : u 15 = .pointer (some ⟨k, 14, none⟩) := HF.out 15 (by decide) (by decide)
        go_wp2
        exact hJ _ _ _ (Nat.le_refl _) (fun _ => ⟨HB2.out, fun _ => Below.refl _ _, fun h => absurd h (by decide), rfl⟩) (fun h => absurd h (by decide)) (by simp [setU, f15] <;> omega)
      · intro u w2 hb hS hG hF hU J K hJ hK
        have HB2 := Lib.hid hb
        have HS2 := Lib.hid hS
        have HG2 := Lib.hid hG
        have HF := Lib.hid hF
        clear hb hF hS hG hU
        have f16 : u 16 = .pointer (some ⟨k, 16, none⟩) := HF.out 16 (by decide) (by decide)
        have hp7 := HF.out 13 (by decide) (by decide)
        obtain ⟨A7, m7, c7, f13⟩ := OwnB.form' hp7
        have HP7 : Hid (OwnB S 5 w2 (u 13) (s.inn ++ b)) := Lib.hid hp7
        rw [f13] at HP7
        have hlt2 : k < w2.heap.size := by have := HS2.out; omega
        have cc := ((HS.out.symm ▸ HB2.out : Below w1.heap.size w1 w2).cell (World.block_lt_of_cell? _ _ c16)).trans c16
        have ff := (H1.out.ext (HS.out.symm ▸ HB2.out)).frozen 16
        clear hp7
        dsimp only
        rw [f13, f16]
        go_wp2
        exact hJ undef _ _ ((by simp [World.setCell])) (fun h => absurd rfl h) (fun _ => HFIN.out w2 _ HB2.out HP7.out) (by simp [setU, f13, f16] <;> omega)
    · intro u w2 hS hFL
      have HS2 := Lib.hid hS
      have HFL := Lib.hid hFL
      clear hS hFL
      have H5 := Lib.hid HFL.out.1
      have HC5 : Hid (Chg k vp w w2) := Lib.hid (HC1.out.trans HFL.out.2 (After.refl _ _))
      clear HFL
      try dsimp only
      generalize u = ur at *
      go_upto_region 4 with fail
      refine name_world (fun W => ConnIs N W k { s with inn := s.inn ++ b } vp ∧ Chg k vp w W) ⟨H5.out, HC5.out⟩ ?_
      rintro w5 ⟨h5, hc5⟩
      obtain ⟨eh, he, hE⟩ := h5.toE
      have HEH : Hid (EhIs s.early eh) := Lib.hid he
      have H6 : Hid (ConnE N w5.drew k { s with inn := s.inn ++ b } vp eh) := Lib.hid (hE.block (grown_of_below (Below.refl _ _).drew _) hE.choose_spec.choose_spec.choose_spec.2.1 (fun _ _ _ h => h.ext (Below.refl _ _).drew))
      have HC6 : Hid (Chg k vp w w5.drew) := Lib.hid hc5.drew
      clear h5 hc5 H5 HC5 he hE
      have hLi : ((L : Nat) : Int) ≤ 1024 := by omega
      go_cut [67] from 56 to 67 (fun _ wc => Hid (ConnE N wc k { s with inn := s.inn ++ b } vp (eh1 eh L) ∧ Chg k vp w wc))
      case first =>
        by_cases hL1 : L = 1024
        · have HNW : Hid (ConnE N w5.drew k { s with inn := s.inn ++ b } vp (eh1 eh L) ∧ Chg k vp w w5.drew) := Lib.hid (by
            rw [show eh1 eh L = eh by unfold eh1; rw [hL1]; simp]
            exact ⟨H6.out, HC6.out⟩)
          subst hL1
          go_still_tail 11, (by kernel_rfl)
          change wpList _ _ _ _ _ w5.drew
          generalize w5.drew = w6 at HNW ⊢
          refine wpList_copy_nothing rfl (.tmp 60) (.tmp 66) 30 30 rfl 5 Try.underlying30 (by kernel_rfl) _ _ _ _ _ _ rfl rfl (by rfl) ?_
          go_wp2_with fail
          go_meet
          case rel => exact HNW
        · have hL3 : ¬ 1024 = L := by omega
          go_still_tail 11, (by kernel_rfl)
          change wpList _ _ _ _ _ w5.drew
          generalize w5.drew = w6 at H6 HC6 ⊢
          obtain ⟨vo, vi, fe, hk, hl, hr⟩ := H6.out
          have hcs : ((eh.drop L).take (1024 - L)).length = 1024 - L := by simp [hl]; omega
          have HK := Lib.hid hk
          have HCS := Lib.hid hcs
          have HNW : Hid (ConnE N (w6.setRow k (((TS.cells { s with inn := s.inn ++ b } vo vi vp fe eh).toArray.toList.take 17 ++ (((eh.drop L).take (1024 - L)) ++ (TS.cells { s with inn := s.inn ++ b } vo vi vp fe eh).toArray.toList.drop (17 + ((eh.drop L).take (1024 - L)).length))).toArray)) k { s with inn := s.inn ++ b } vp (eh1 eh L) ∧ Chg k vp w (w6.setRow k (((TS.cells { s with inn := s.inn ++ b } vo vi vp fe eh).toArray.toList.take 17 ++ (((eh.drop L).take (1024 - L)) ++ (TS.cells { s with inn := s.inn ++ b } vo vi vp fe eh).toArray.toList.drop (17 + ((eh.drop L).take (1024 - L)).length))).toArray))) := Lib.hid (by
            have hsp := cells_splice { s with inn := s.inn ++ b } vo vi vp fe (eh := eh) (cs := (eh.drop L).take (1024 - L)) 0 hl (by rw [hcs]; omega)
            rw [Nat.add_zero, List.take_zero, List.nil_append, Nat.zero_add, hcs] at hsp
            rw [hcs, List.toList_toArray, hsp]
            have hg : w6.grownBy (w6.setRow k (TS.cells { s with inn := s.inn ++ b } vo vi vp fe ((eh.drop L).take (1024 - L) ++ eh.drop (1024 - L))).toArray) (some k) := ⟨rfl, rfl, rfl, by rw [size_setRow]; exact Nat.le_refl _, fun j _ hj => setRow_other w6 k j _ (fun e => hj (by rw [e]))⟩
            exact ⟨⟨vo, vi, fe, setRow_heap w6 k _ _ _ _ hk, eh1_len hl (by omega), hr.1, hr.2.1, hr.2.2.1.grown hg (.inr (.inl rfl)), hr.2.2.2.1.grown hg (.inr (.inl rfl)), hr.2.2.2.2.1.grown hg (.inr (.inl rfl)) (fun e => (hr.2.2.2.2.2.2 k e).2 rfl), hr.2.2.2.2.2⟩, HC6.out.trans (Chg.grown hg (.inl rfl)) (After.refl _ _)⟩)
          clear hk hcs hr
          refine wpList_copy_own rfl (.tmp 60) (.tmp 66) 30 30 rfl 5 Try.underlying30 (by kernel_rfl) k 17 1024 1024 ⟨k, 17 + L, none⟩ (1024 - L) (1024 - L) rfl rfl _ 71 HK.out ((eh.drop L).take (1024 - L)) (HCS.out.trans (Nat.min_eq_left (by omega : 1024 - L ≤ 1024)).symm) ?_ ?_ ?_ ?_
          · intro j v hj
            rw [add_pl, show 17 + L + j = 17 + (L + j) by omega]
            have hjl : j < 1024 - L := by have := (List.getElem?_eq_some_iff.1 hj).1; rw [HCS.out] at this; exact this
            rw [List.getElem?_take_of_lt hjl, List.getElem?_drop] at hj
            exact HK.out.cell ((get_eh (TS.hd_len _ _ _) hl (L + j) (by omega)).trans hj)
          · rw [HCS.out]
            have : (TS.cells { s with inn := s.inn ++ b } vo vi vp fe eh).length = 2074 := by unfold TS.cells; simp [TS.hd_len, hl, TS.tl]
            simp only [List.size_toArray]
            omega
          · intro v hv
            obtain ⟨j, hj⟩ := List.mem_iff_getElem?.1 hv
            have hjl : j < 1024 - L := by have := (List.getElem?_eq_some_iff.1 hj).1; rw [HCS.out] at this; exact this
            rw [List.getElem?_take_of_lt hjl, List.getElem?_drop] at hj
            obtain ⟨x, e1, _⟩ := HEH.out.2 (L + j) (by omega)
            rw [hj] at e1
            cases Option.some.inj e1
            rfl
          · generalize w6.setRow k _ = w7 at HNW ⊢
            go_wp2_with fail
            go_meet
            case rel => exact HNW
      case rest =>
        obtain ⟨h8, hc8⟩ := hcut.out
        clear hcut H6 HC6
        obtain ⟨em, hem⟩ : ∃ em, eh1 eh L = em := ⟨_, rfl⟩
        rw [hem] at h8
        have HEM := Lib.hid hem
        clear hem
        obtain ⟨w8, rfl⟩ : ∃ w8, w8 = wc := ⟨_, rfl⟩
        have H8 : Hid (ConnE N w8.drew k { s with inn := s.inn ++ b } vp em) := Lib.hid (h8.block (grown_of_below (Below.refl _ _).drew _) h8.choose_spec.choose_spec.choose_spec.2.1 (fun _ _ _ h => h.ext (Below.refl _ _).drew))
        have HC8 : Hid (Chg k vp w w8.drew) := Lib.hid hc8.drew
        clear h8 hc8
        go_upto_region 5 with fail
        go_cut [79] from 68 to 79 (fun _ wc => Hid (ConnE N wc k { s with inn := s.inn ++ b } vp (eh2 em L) ∧ Chg k vp w wc))
        case first =>
          by_cases hL1 : L = 1024
          · have HNW : Hid (ConnE N w8.drew k { s with inn := s.inn ++ b } vp (eh2 em L) ∧ Chg k vp w w8.drew) := Lib.hid (by
              rw [show eh2 em L = em by unfold eh2; rw [hL1]; simp]
              exact ⟨H8.out, HC8.out⟩)
            subst hL1
            go_still_tail 11, (by kernel_rfl)
            change wpList _ _ _ _ _ w8.drew
            generalize w8.drew = w9 at HNW ⊢
            refine wpList_copy_nothing rfl (.tmp 72) (.tmp 78) 122 122 rfl 4 Try.underlying122 (by kernel_rfl) _ _ _ _ _ _ rfl rfl (by rfl) ?_
            go_wp2_with fail
            go_meet
            case rel => exact HNW
          · have hL3 : ¬ 1024 = L := by omega
            go_still_tail 11, (by kernel_rfl)
            change wpList _ _ _ _ _ w8.drew
            generalize w8.drew = w9 at H8 HC8 ⊢
            obtain ⟨vo, vi, fe, hk, hl, hr⟩ := H8.out
            have hcs : ((em.drop (1024 + L)).take (1024 - L)).length = 1024 - L := by simp [hl]; omega
            have HK := Lib.hid hk
            have HCS := Lib.hid hcs
            have HNW : Hid (ConnE N (w9.setRow k (((TS.cells { s with inn := s.inn ++ b } vo vi vp fe em).toArray.toList.take 1041 ++ (((em.drop (1024 + L)).take (1024 - L)) ++ (TS.cells { s with inn := s.inn ++ b } vo vi vp fe em).toArray.toList.drop (1041 + ((em.drop (1024 + L)).take (1024 - L)).length))).toArray)) k { s with inn := s.inn ++ b } vp (eh2 em L) ∧ Chg k vp w (w9.setRow k (((TS.cells { s with inn := s.inn ++ b } vo vi vp fe em).toArray.toList.take 1041 ++ (((em.drop (1024 + L)).take (1024 - L)) ++ (TS.cells { s with inn := s.inn ++ b } vo vi vp fe em).toArray.toList.drop (1041 + ((em.drop (1024 + L)).take (1024 - L)).length))).toArray))) := Lib.hid (by
              have hsp := cells_splice { s with inn := s.inn ++ b } vo vi vp fe (eh := em) (cs := (em.drop (1024 + L)).take (1024 - L)) 1024 hl (by rw [hcs]; omega)
              rw [show 17 + 1024 = 1041 from rfl, hcs] at hsp
              rw [hcs, List.toList_toArray, hsp]
              have hg : w9.grownBy (w9.setRow k (TS.cells { s with inn := s.inn ++ b } vo vi vp fe (em.take 1024 ++ ((em.drop (1024 + L)).take (1024 - L) ++ em.drop (1024 + (1024 - L))))).toArray) (some k) := ⟨rfl, rfl, rfl, by rw [size_setRow]; exact Nat.le_refl _, fun j _ hj => setRow_other w9 k j _ (fun e => hj (by rw [e]))⟩
              exact ⟨⟨vo, vi, fe, setRow_heap w9 k _ _ _ _ hk, eh2_len hl (by omega), hr.1, hr.2.1, hr.2.2.1.grown hg (.inr (.inl rfl)), hr.2.2.2.1.grown hg (.inr (.inl rfl)), hr.2.2.2.2.1.grown hg (.inr (.inl rfl)) (fun e => (hr.2.2.2.2.2.2 k e).2 rfl), hr.2.2.2.2.2⟩, HC8.out.trans (Chg.grown hg (.inl rfl)) (After.refl _ _)⟩)
            clear hk hcs hr
            refine wpList_copy_own rfl (.tmp 72) (.tmp 78) 122 122 rfl 4 Try.underlying122 (by kernel_rfl) k 1041 1024 1024 ⟨k, 1041 + L, none⟩ (1024 - L) (1024 - L) rfl rfl _ 71 HK.out ((em.drop (1024 + L)).take (1024 - L)) (HCS.out.trans (Nat.min_eq_left (by omega : 1024 - L ≤ 1024)).symm) ?_ ?_ ?_ ?_
            · intro j v hj
              rw [add_pl, show 1041 + L + j = 17 + (1024 + L + j) by omega]
              have hjl : j < 1024 - L := by have := (List.getElem?_eq_some_iff.1 hj).1; rw [HCS.out] at this; exact this
              rw [List.getElem?_take_of_lt hjl, List.getElem?_drop] at hj
              exact HK.out.cell ((get_eh (TS.hd_len _ _ _) hl (1024 + L + j) (by omega)).trans hj)
            · rw [HCS.out]
              have : (TS.cells { s with inn := s.inn ++ b } vo vi vp fe em).length = 2074 := by unfold TS.cells; simp [TS.hd_len, hl, TS.tl]
              simp only [List.size_toArray]
              omega
            · intro v hv
              obtain ⟨j, hj⟩ := List.mem_iff_getElem?.1 hv
              have hjl : j < 1024 - L := by have := (List.getElem?_eq_some_iff.1 hj).1; rw [HCS.out] at this; exact this
              rw [List.getElem?_take_of_lt hjl, List.getElem?_drop, ← HEM.out, eh1_get HEH.out.1 (by omega), if_neg (by omega)] at hj
              obtain ⟨x, _, e1, _⟩ := HEH.out.2 (L + j) (by omega)
              rw [show 1024 + L + j = 1024 + (L + j) by omega, e1] at hj
              cases Option.some.inj hj
              rfl
            · generalize w9.setRow k _ = w10 at HNW ⊢
              go_wp2_with fail
              go_meet
              case rel => exact HNW
        case rest =>
          obtain ⟨h11, hc11⟩ := hcut.out
          clear hcut H8 HC8
          obtain ⟨en, hen⟩ : ∃ en, eh2 em L = en := ⟨_, rfl⟩
          rw [hen] at h11
          have HEN := Lib.hid hen
          clear hen
          obtain ⟨w11, rfl⟩ : ∃ w11, w11 = wc := ⟨_, rfl⟩
          have H11 := Lib.hid h11
          have HC11 := Lib.hid hc11
          clear h11 hc11
          go_upto_region 6 with fail
          go_cut [86] from 80 to 86 (fun _ wc => Hid (ConnE N wc k { s with inn := s.inn ++ b } vp (eh3 en L) ∧ Chg k vp w wc))
          case first =>
            by_cases hL1 : L = 0
            · have HNW : Hid (ConnE N w11 k { s with inn := s.inn ++ b } vp (eh3 en L) ∧ Chg k vp w w11) := Lib.hid (by
                have hl := H11.out.choose_spec.choose_spec.choose_spec.2.1
                rw [show eh3 en L = en by unfold eh3; rw [hL1, List.take_of_length_le (by omega)]; simp]
                exact ⟨H11.out, HC11.out⟩)
              subst hL1
              go_wp2_with (with_reducible refine at_clear ?_; refine wpList_clear_nothing rfl (.tmp 86) 122 rfl 4 (Try.underlying122) _ _ rfl ?_)
              go_wp2_with fail
              go_meet
              case rel => exact HNW
            · obtain ⟨M, hM⟩ : ∃ M, 1024 - L = M := ⟨_, rfl⟩
              have hML : M + L = 1024 := by omega
              have hwm : IntKind.i64.wrap ((1024 : Int) - (L : Int)) = (M : Int) := by rw [IntWalk.i64_in _ (by omega)]; omega
              have hMi : (M : Int) ≤ 1024 := by omega
              have hM0 : ¬ 1024 = M := by omega
              have HLM : Hid (1024 - M = L) := Lib.hid (by omega)
              obtain ⟨vo, vi, fe, hk, hl, hr⟩ := H11.out
              have HK := Lib.hid hk
              have HNW : Hid (ConnE N (w11.setCells k (1041 + M) (List.replicate (1024 - M) (.bool false))) k { s with inn := s.inn ++ b } vp (eh3 en L) ∧ Chg k vp w (w11.setCells k (1041 + M) (List.replicate (1024 - M) (.bool false)))) := Lib.hid (by
                have hg := grown_setCells w11 k (1041 + M) (List.replicate (1024 - M) (.bool false))
                have hsp := cells_splice { s with inn := s.inn ++ b } vo vi vp fe (eh := en) (cs := List.replicate (1024 - M) (.bool false)) (1024 + M) hl (by rw [List.length_replicate]; omega)
                have hlen : (TS.cells { s with inn := s.inn ++ b } vo vi vp fe en).length = 2074 := by unfold TS.cells; simp [TS.hd_len, hl, TS.tl]
                have hb1 := BK.setCells (List.replicate (1024 - M) (.bool false)) (1041 + M) _ _ hk (by rw [List.length_replicate, hlen]; omega)
                rw [List.append_assoc, show 1041 + M = 17 + (1024 + M) by omega, hsp, List.length_replicate, List.drop_eq_nil_of_le (by omega), List.append_nil, show 1024 + M = 2048 - L by omega, HLM.out] at hb1
                rw [show 1041 + M = 17 + (2048 - L) by omega, HLM.out] at hg ⊢
                exact ⟨⟨vo, vi, fe, hb1, eh3_len hl (by omega), hr.1, hr.2.1, hr.2.2.1.grown hg (.inr (.inl rfl)), hr.2.2.2.1.grown hg (.inr (.inl rfl)), hr.2.2.2.2.1.grown hg (.inr (.inl rfl)) (fun e => (hr.2.2.2.2.2.2 k e).2 rfl), hr.2.2.2.2.2⟩, HC11.out.trans (Chg.grown hg (.inl rfl)) (After.refl _ _)⟩)
              have HLEN : Hid ((TS.cells { s with inn := s.inn ++ b } vo vi vp fe en).length = 2074) := Lib.hid (by unfold TS.cells; simp [TS.hd_len, hl, TS.tl])
              have HMM := Lib.hid hML
              clear hk hr hl hM hML
              go_wp2_with (with_reducible refine at_clear ?_; refine wpList_clear_k rfl (.tmp 86) 122 rfl 4 (Try.underlying122) (.bool false) (by kernel_rfl) rfl rfl k (1041 + M) (1024 - M) (1024 - M) rfl (by have := HMM.out; omega) _ 71 HK.out (by rw [HLEN.out]; omega) ?_)
              go_wp2_with fail
              go_meet
              case rel => exact HNW
          case rest =>
            obtain ⟨h13, hc13⟩ := hcut.out
            clear hcut H11 HC11
            obtain ⟨w13, rfl⟩ : ∃ w13, w13 = wc := ⟨_, rfl⟩
            have h14 := h13.toIs (s.early.drop L ++ List.replicate L none) (by rw [← HEN.out, ← HEM.out]; exact HEH.out.shift HEL.out (by omega))
            have H14 := Lib.hid h14
            have HC13 := Lib.hid hc13
            have c15 : w13.cell? ⟨k, 15, none⟩ = some (.int .u32 (rv : Int)) := by rw [← HRV.out]; exact h14.cellH 15 (by decide) (fun _ _ => rfl)
            have f15 := h14.frozen 15
            have hkl13 := h14.lt.1
            clear h13 h14 hc13
            obtain ⟨E, hE⟩ : ∃ E, s.early.drop L ++ List.replicate L none = E := ⟨_, rfl⟩
            rw [hE] at H14
            have HE := Lib.hid hE
            clear hE
            obtain ⟨q, hq⟩ : ∃ q, m32 (rv + L) = q := ⟨_, rfl⟩
            have hq32 : q < 4294967296 := by rw [← hq]; exact m32_lt _
            have HADD := Lib.hid (add_calls rv L hr32 (by omega))
            rw [hq] at HADD
            have HQR : Hid (TS.rnum s (s.rcv + L) = q) := Lib.hid (by rw [← hq, ← HRV.out]; unfold TS.rnum m32; omega)
            have HNW : Hid (ConnIs N (w13.setCell ⟨k, 15, none⟩ (.int .u32 (q : Int))) k { s with inn := s.inn ++ b, early := E, rcv := s.rcv + L } vp ∧ Chg k vp w (w13.setCell ⟨k, 15, none⟩ (.int .u32 (q : Int)))) := Lib.hid ⟨H14.out.setH { s with inn := s.inn ++ b, early := E, rcv := s.rcv + L } 15 (by decide) _ (fun _ _ => by rw [← HQR.out]; rfl) (fun _ _ => rfl) rfl rfl rfl rfl (fun e => ⟨e, rfl⟩), HC13.out.trans (Chg.grown (grown_setCell _ _ _ _) (.inl rfl)) (After.refl _ _)⟩
            have HEQ : Hid (s.told = true → ∀ fe, fe = s.rnum s.fend → ((q = fe) ↔ s.rcv + L = s.fend)) := Lib.hid fun ht f hf => by
              obtain ⟨fe0, e1, e2, e3⟩ := H.out.cellF
              have h1 := HOK.out.fe ht HF0.out
              have h2 : s.window ≤ 1024 := by unfold TS.window; omega
              rw [hf, ← HQR.out]
              unfold TS.rnum m32
              omega
            clear hq
            go_wp2_with fail
            refine (HADD.out _).mono ?_
            rintro e w' ⟨rfl, rfl⟩
            go_upto_region 8 with fail
            refine name_world (fun W => ConnIs N W k { s with inn := s.inn ++ b, early := E, rcv := s.rcv + L } vp ∧ Chg k vp w W) HNW.out ?_
            rintro w15 ⟨h15, hc15⟩
            clear HNW HC13 H14 c15 f15 hkl13
            have d15 : w15.cell? ⟨k, 15, none⟩ = some (.int .u32 (q : Int)) := by rw [← HQR.out]; exact h15.cellH 15 (by decide) (fun _ _ => rfl)
            have d2065 : w15.cell? ⟨k, 2065, none⟩ = some (.bool s.told) := h15.cellT 0 (fun _ _ => rfl) 2065 rfl
            obtain ⟨f2, d2066, hf2, hf3⟩ := h15.cellF
            have HF3 : Hid (s.told = true → f2 = s.rnum s.fend) := Lib.hid hf3
            have H15 := Lib.hid h15
            have HC15 := Lib.hid hc15
            have hkl15 := h15.lt.1
            clear h15 hc15 hf3
            cases hto : s.told with
            | false =>
              rw [hto] at d2065
              have HFN : Hid (s.fill = { s with inn := s.inn ++ b, early := E, rcv := s.rcv + L }) := Lib.hid (by rw [HFI.out, if_neg (fun h => by rw [hto] at h; exact absurd h.1 (by decide)), HB0.out, HE.out])
              clear hto
              go_quiet (fail)
              go_wp2_with fail
              go_end0
              exact ⟨rfl, by rw [HFN.out]; exact H15.out.ext (ext_drewN (Below.refl _ _) _), HC15.out.trans (Chg.below (ext_drewN (Below.refl _ _) _)) (After.refl _ _)⟩
            | true =>
              rw [hto] at d2065
              by_cases he : s.rcv + L = s.fend
              · have hm : q = f2 := (HEQ.out hto _ (HF3.out hto)).2 he
                have HFN : Hid (s.fill = { s with inn := s.inn ++ b, early := E, rcv := s.rcv + L + 1, fin := true }) := Lib.hid (by rw [HFI.out, if_pos ⟨hto, he⟩, HB0.out, HE.out])
                rw [← hm] at d2066
                obtain ⟨q1, hq1⟩ : ∃ q1, m32 (q + 1) = q1 := ⟨_, rfl⟩
                have hwq : IntKind.u32.wrap ((q : Int) + 1) = (q1 : Int) := by rw [← hq1, show (q : Int) + 1 = ((q + 1 : Nat) : Int) from rfl, wrap_u32_nat]; rfl
                have HQ1 : Hid (TS.rnum s (s.rcv + L + 1) = q1) := Lib.hid (by rw [← hq1, ← HQR.out]; unfold TS.rnum m32; omega)
                clear hto he hm hq1
                go_quiet (fail)
                go_upto_region 9 with fail
                refine name_world (fun W => ConnIs N W k { s with inn := s.inn ++ b, early := E, rcv := s.rcv + L } vp ∧ Chg k vp w W) ⟨H15.out.ext (ext_drewN (Below.refl _ _) _), HC15.out.trans (Chg.below (ext_drewN (Below.refl _ _) _)) (After.refl _ _)⟩ ?_
                rintro w16 ⟨h16, hc16⟩
                clear d15 d2065 d2066 hkl15
                have d15 : w16.cell? ⟨k, 15, none⟩ = some (.int .u32 (q : Int)) := by rw [← HQR.out]; exact h16.cellH 15 (by decide) (fun _ _ => rfl)
                have f15 := h16.frozen 15
                have d2067 := h16.cellT 2 (fun _ _ => rfl) 2067 rfl
                have f2067 := h16.frozen 2067
                have h17 := h16.setT { s with inn := s.inn ++ b, early := E, rcv := s.rcv + L, fin := true } 2 2067 rfl (.bool true) (fun _ _ => rfl) (fun _ _ => rfl) rfl rfl rfl rfl (fun e => ⟨e, rfl⟩)
                have h18 : ConnIs N ((w16.setCell ⟨k, 2067, none⟩ (.bool true)).setCell ⟨k, 15, none⟩ (.int .u32 (q1 : Int))) k { s with inn := s.inn ++ b, early := E, rcv := s.rcv + L + 1, fin := true } vp := h17.setH { s with inn := s.inn ++ b, early := E, rcv := s.rcv + L + 1, fin := true } 15 (by decide) _ (fun _ _ => by rw [← HQ1.out]; rfl) (fun _ _ => rfl) rfl rfl rfl rfl (fun e => ⟨e, rfl⟩)
                have H18 := Lib.hid h18
                have HC18 : Hid (Chg k vp w ((w16.setCell ⟨k, 2067, none⟩ (.bool true)).setCell ⟨k, 15, none⟩ (.int .u32 (q1 : Int)))) := Lib.hid ((hc16.trans (Chg.grown (grown_setCell _ _ _ _) (.inl rfl)) (After.refl _ _)).trans (Chg.grown (grown_setCell _ _ _ _) (.inl rfl)) (After.refl _ _))
                have hkl16 := h16.lt.1
                clear h16 hc16 h17 h18
                go_wp2_with fail
                go_end0
                exact ⟨rfl, by rw [HFN.out]; exact H18.out, HC18.out⟩
              · have hm : q ≠ f2 := fun e => he ((HEQ.out hto _ (HF3.out hto)).1 e)
                have eme : ((q : Int) == (f2 : Int)) = false := beq_eq_false_iff_ne.2 (by omega)
                have HFN : Hid (s.fill = { s with inn := s.inn ++ b, early := E, rcv := s.rcv + L }) := Lib.hid (by rw [HFI.out, if_neg (fun h => he h.2), HB0.out, HE.out])
                clear hto he hm
                go_quiet (fail)
                go_wp2_with fail
                go_end0
                exact ⟨rfl, by rw [HFN.out]; exact H15.out.ext (ext_drewN (Below.refl _ _) _), HC15.out.trans (Chg.below (ext_drewN (Below.refl _ _) _)) (After.refl _ _)⟩
end
end Go.Proofs.Ytjhnnnklfhbebaa
