/- The walk of the law PacketRefused (printed by gentk.py). -/
import Derived.Test.YtobkelpeenckeaaPkI
import Derived.Test.YtobkelpeenckeaaRowPk
namespace Go.Proofs.Ytobkelpeenckeaa
open Go.RowKit
set_option linter.unusedVariables false
set_option linter.unusedSimpArgs false

theorem okN_back (p : Pk) (n s K : Nat) (h : okN p n = true) : okN ⟨p.dst, p.src, p.dp, p.sp, s, K, 10, 0, 0, 0, []⟩ 0 = true := by
  unfold okN at h ⊢
  simp only [Bool.and_eq_true, decide_eq_true_eq] at h ⊢
  omega
set_option maxRecDepth 100000 in
set_option maxHeartbeats 2000000 in
theorem refused_walk (w : World) (p : Pk) (A : Option Addr) (c : Nat) (h : RB w A p.data) (hc : p.data.length ≤ c) (hcm : c ≤ maxLen) (hin : PkIn p) :
    Calls Try.prog 6 #[.agg (p.cs A p.data.length c).toArray] w fun e w' => e = .returned (.bool true) ∧ Below w.heap.size w w' := by
  by_cases hs : 16384 < p.data.length
  · clear h hin
    obtain ⟨src, dst, sp, dp, seq, ack, fl, wn, pr, og, data⟩ := p
    dsimp only at hs
    obtain ⟨n, hn⟩ : ∃ n, data.length = n := ⟨_, rfl⟩
    simp only [Pk.cs]
    rw [hn] at hs ⊢
    clear hn
    go_enter Try.func6, Try.ntmps6
    go_wp2_with fail
    refine (awake_calls _).mono ?_
    rintro e w2 ⟨rfl, hb⟩
    have HB := Lib.hid (ext_trans (ext_alloc _ _) hb)
    clear hb
    go_wp2
    go_ret
    exact ⟨rfl, HB.out⟩
  · obtain ⟨n, hn⟩ : ∃ n, p.data.length = n := ⟨_, rfl⟩
    rw [hn] at hs ⊢
    have hn1 : n ≤ 100000 := by omega
    have HN1 := Lib.hid hn1
    have HIN := Lib.hid hin
    have HCKP : Hid (∀ W : World, Calls Try.prog 15 #[.agg (p.cs A n c).toArray] W fun e w' => e = .returned (.int .i64 (if okN p n then 0 else 40)) ∧ Below W.heap.size W w') := Lib.hid (check_n p A n c)
    have HREF : Hid (∀ W : World, Calls Try.prog 18 #[.agg (p.cs A n c).toArray] W fun e w' => e = .returned (.tuple #[.agg ((p.refuse n).1.cs none 0 0).toArray, .bool (p.refuse n).2]) ∧ Below W.heap.size W w') := Lib.hid (refuse_n p A n c hn1 hin.1)
    have HTK : Hid (∀ W : World, Calls Try.prog 20 #[.agg (p.cs A n c).toArray] W fun e w' => e = .returned (.int .i64 (takesN p.fl n : Int)) ∧ Below W.heap.size W w') := Lib.hid (takes_n p A n c hn1)
    clear h hin hc hn hcm hn1
    rcases fbit8 p.fl with h8 | h8
    · have hR : p.refuse n = (⟨p.dst, p.src, p.dp, p.sp, if bits .and .i64 p.fl 2 = 0 then 0 else p.ack, (p.seq + takesN p.fl n) % 4294967296, 10, 0, 0, 0, []⟩, true) := by unfold Pk.refuse; rw [if_pos h8]
      rw [hR] at HREF
      obtain ⟨T, hT⟩ : ∃ T, takesN p.fl n = T := ⟨_, rfl⟩
      obtain ⟨s4, hs4⟩ : ∃ s4, (if bits .and .i64 p.fl 2 = 0 then 0 else p.ack) = s4 := ⟨_, rfl⟩
      have hs4' : s4 < 4294967296 := by rw [← hs4]; split; omega; exact HIN.out.2
      rw [hs4, hT] at HREF
      rw [hT] at HTK
      have HT2 : Hid (T ≤ n + 2) := Lib.hid (by rw [← hT]; unfold takesN; split <;> split <;> omega)
      obtain ⟨KA, hKA⟩ : ∃ K, (p.seq + T) % 4294967296 = K := ⟨_, rfl⟩
      rw [hKA] at HREF
      have HKA := Lib.hid hKA
      have HREF2 : Hid (∀ W : World, Calls Try.prog 18 #[.agg ((⟨p.dst, p.src, p.dp, p.sp, s4, KA, 10, 0, 0, 0, []⟩ : Pk).cs none 0 0).toArray] W fun e w' => e = .returned (.tuple #[.agg zeroCs.toArray, .bool false]) ∧ Below W.heap.size W w') := Lib.hid (refuse_no ⟨p.dst, p.src, p.dp, p.sp, s4, KA, 10, 0, 0, 0, []⟩ none 0 0 (show bits .and .i64 10 8 = 8 by decide))
      have HCKR : Hid (okN p n = true → ∀ W : World, Calls Try.prog 15 #[.agg ((⟨p.dst, p.src, p.dp, p.sp, s4, KA, 10, 0, 0, 0, []⟩ : Pk).cs none 0 0).toArray] W fun e w' => e = .returned (.int .i64 0) ∧ Below W.heap.size W w') := Lib.hid fun ho W => by
        have := check_n ⟨p.dst, p.src, p.dp, p.sp, s4, KA, 10, 0, 0, 0, []⟩ none 0 0 W
        rw [if_pos (okN_back p n s4 KA ho)] at this
        exact this
      clear hR hT hs4 hKA hs4'
      have hKT : Hid (IntKind.u32.wrap ((KA : Int) - (p.seq : Int)) = (T : Int)) := Lib.hid (by have := HKA.out; have := HIN.out.1; have := HT2.out; have := HN1.out; rw [IntKind.wrap_u32]; omega)
      obtain ⟨CK, hCK⟩ : ∃ x, okN p n = x := ⟨_, rfl⟩
      rw [hCK] at HCKP HCKR
      clear hCK
      obtain ⟨src, dst, sp, dp, seq, ack, fl, wn, pr, og, data⟩ := p
      dsimp only at h8 HIN HKA hKT
      simp only [Pk.cs, zeroCs] at HREF HREF2 HTK HCKP HCKR ⊢
      go_enter Try.func6, Try.ntmps6
      go_wp2_with fail
      refine (HREF.out _).mono ?_
      rintro e w3 ⟨rfl, hb3⟩
      have hz3 : w.heap.size + 1 ≤ w3.heap.size := by have := hb3.size; simp at this; omega
      have HP3 := Lib.hid ((hb3.block w.heap.size (by simp)).trans (heap_end rfl _ _))
      have HB3 := Lib.hid (ext_trans (ext_alloc _ _) hb3)
      clear hb3
      obtain ⟨kp, hkp⟩ : ∃ k, w.heap.size = k := ⟨_, rfl⟩
      obtain ⟨k3, hk3⟩ : ∃ k, w3.heap.size = k := ⟨_, rfl⟩
      have HKP := Lib.hid hkp
      have HK3 := Lib.hid hk3
      go_upto_region 4 with fail
      have hx := ext_alloc w3 (.cells #[.int .i64 dst, .int .i64 src, .int .i64 dp, .int .i64 sp, .int .u32 (s4 : Int), .int .u32 (KA : Int), .int .i64 10, .int .i64 0, .int .i64 0, .int .i64 0, .slice none 0 0] 25)
      have HA4 : Hid (BK (w3.alloc (.cells #[.int .i64 dst, .int .i64 src, .int .i64 dp, .int .i64 sp, .int .u32 (s4 : Int), .int .u32 (KA : Int), .int .i64 10, .int .i64 0, .int .i64 0, .int .i64 0, .slice none 0 0] 25)) k3 25 [.int .i64 dst, .int .i64 src, .int .i64 dp, .int .i64 sp, .int .u32 (s4 : Int), .int .u32 (KA : Int), .int .i64 10, .int .i64 0, .int .i64 0, .int .i64 0, .slice none 0 0]) := Lib.hid (heap_end HK3.out _ _)
      have HP4 : Hid (BK (w3.alloc (.cells #[.int .i64 dst, .int .i64 src, .int .i64 dp, .int .i64 sp, .int .u32 (s4 : Int), .int .u32 (KA : Int), .int .i64 10, .int .i64 0, .int .i64 0, .int .i64 0, .slice none 0 0] 25)) kp 25 [.int .i64 src, .int .i64 dst, .int .i64 sp, .int .i64 dp, .int .u32 (seq : Int), .int .u32 (ack : Int), .int .i64 fl, .int .i64 wn, .int .i64 pr, .int .i64 og, .slice A n c]) := Lib.hid (heap_old (by rw [← HKP.out]; exact HP3.out))
      have HB4 := Lib.hid (ext_trans HB3.out hx)
      clear hx hkp hk3 HP3 HB3 hz3
      generalize w3.alloc (.cells #[.int .i64 dst, .int .i64 src, .int .i64 dp, .int .i64 sp, .int .u32 (s4 : Int), .int .u32 (KA : Int), .int .i64 10, .int .i64 0, .int .i64 0, .int .i64 0, .slice none 0 0] 25) = w4 at *
      have q0 : w4.cell? ⟨k3, 0, none⟩ = some (.int .i64 dst) := HA4.out.cell rfl
      have q1 : w4.cell? ⟨k3, 1, none⟩ = some (.int .i64 src) := HA4.out.cell rfl
      have q2 : w4.cell? ⟨k3, 2, none⟩ = some (.int .i64 dp) := HA4.out.cell rfl
      have q3 : w4.cell? ⟨k3, 3, none⟩ = some (.int .i64 sp) := HA4.out.cell rfl
      have q4 : w4.cell? ⟨k3, 4, none⟩ = some (.int .u32 (s4 : Int)) := HA4.out.cell rfl
      have q5 : w4.cell? ⟨k3, 5, none⟩ = some (.int .u32 (KA : Int)) := HA4.out.cell rfl
      have q6 : w4.cell? ⟨k3, 6, none⟩ = some (.int .i64 10) := HA4.out.cell rfl
      have q7 : w4.cell? ⟨k3, 7, none⟩ = some (.int .i64 0) := HA4.out.cell rfl
      have q8 : w4.cell? ⟨k3, 8, none⟩ = some (.int .i64 0) := HA4.out.cell rfl
      have q9 : w4.cell? ⟨k3, 9, none⟩ = some (.int .i64 0) := HA4.out.cell rfl
      have q10 : w4.cell? ⟨k3, 10, none⟩ = some (.slice none 0 0) := HA4.out.cell rfl
      go_wp2_with fail
      refine (HREF2.out _).mono ?_
      rintro e w5 ⟨rfl, hb5⟩
      have HA5 := Lib.hid (HA4.out.ext hb5)
      have HP5 := Lib.hid (HP4.out.ext hb5)
      have HB5 := Lib.hid (ext_trans HB4.out hb5)
      clear q0 q1 q2 q3 q4 q5 q6 q7 q8 q9 q10 HA4 HP4 HB4 hb5 HREF HREF2
      go_upto_region 7 with fail
      have HA7 := Lib.hid (HA5.out.ext (ext_alloc w5 (.cells #[.int .i64 0, .int .i64 0, .int .i64 0, .int .i64 0, .int .u32 0, .int .u32 0, .int .i64 0, .int .i64 0, .int .i64 0, .int .i64 0, .slice none 0 0] 25)))
      have HP7 := Lib.hid (HP5.out.ext (ext_alloc w5 (.cells #[.int .i64 0, .int .i64 0, .int .i64 0, .int .i64 0, .int .u32 0, .int .u32 0, .int .i64 0, .int .i64 0, .int .i64 0, .int .i64 0, .slice none 0 0] 25)))
      have HB7 := Lib.hid (ext_trans HB5.out (ext_alloc w5 (.cells #[.int .i64 0, .int .i64 0, .int .i64 0, .int .i64 0, .int .u32 0, .int .u32 0, .int .i64 0, .int .i64 0, .int .i64 0, .int .i64 0, .slice none 0 0] 25)))
      clear HA5 HP5 HB5
      generalize w5.alloc (.cells #[.int .i64 0, .int .i64 0, .int .i64 0, .int .i64 0, .int .u32 0, .int .u32 0, .int .i64 0, .int .i64 0, .int .i64 0, .int .i64 0, .slice none 0 0] 25) = w7 at *
      obtain ⟨k5, hk5⟩ : ∃ k, w5.heap.size = k := ⟨_, rfl⟩
      try rw [hk5]
      clear hk5
      cases CK with
      | true =>
        have HC1 : Hid (∀ W : World, Calls Try.prog 15 #[.agg #[.int .i64 src, .int .i64 dst, .int .i64 sp, .int .i64 dp, .int .u32 (seq : Int), .int .u32 (ack : Int), .int .i64 fl, .int .i64 wn, .int .i64 pr, .int .i64 og, .slice A n c]] W fun e w' => e = .returned (.int .i64 0) ∧ Below W.heap.size W w') := HCKP
        have HC2 := Lib.hid (HCKR.out rfl)
        refine wp_region_facts [[], [0], [0, 1], [0, 1, 2], [0, 1, 2, 3], [0, 1, 2], [0, 1, 2, 5], [0, 1, 2, 3, 4, 5, 6], [0, 1, 2, 3, 4, 5, 6, 7], [0, 1, 2, 3, 4, 5, 6, 7, 8], [0, 1, 2, 3, 4, 5, 6, 7, 8, 9], [0, 1, 2, 3, 4, 5, 6, 7, 8, 9, 10], [0, 1, 2, 3, 4, 5, 6, 7, 8, 9], [0, 1, 2, 3, 4, 5, 6, 7, 8, 9, 12], [0, 1, 2, 3, 4, 5, 6, 7, 8, 9, 10, 11, 12, 13], [0, 1, 2, 3, 4, 5, 6, 7, 8, 9, 10, 11, 12, 13, 14], [0, 1, 2, 3, 4, 5, 6, 7, 8, 9, 10, 11, 12, 13, 14, 15], [0, 1, 2, 3, 4, 5, 6, 7, 8, 9, 10, 11, 12, 13, 14, 15, 16], [0, 1, 2, 3, 4, 5, 6, 7, 8, 9, 10, 11, 12, 13, 14, 15, 16, 17], [0, 1, 2, 3, 4, 5, 6, 7, 8, 9, 10, 11, 12, 13, 14, 15, 16], [0, 1, 2, 3, 4, 5, 6, 7, 8, 9, 10, 11, 12, 13, 14, 15, 16, 19], [0, 1, 2, 3, 4, 5, 6, 7, 8, 9, 10, 11, 12, 13, 14, 15, 16, 17, 18, 19, 20], [0, 1, 2, 3, 4, 5, 6, 7, 8, 9, 10, 11, 12, 13, 14, 15, 16], [0, 1, 2, 3, 4, 5, 6, 7, 8, 9, 10, 11, 12, 13, 14, 15, 16, 22], [0, 1, 2, 3, 4, 5, 6, 7, 8, 9, 10, 11, 12, 13, 14, 15, 16, 22, 23], [0, 1, 2, 3, 4, 5, 6, 7, 8, 9, 10, 11, 12, 13, 14, 15, 16, 17, 18, 19, 20, 21, 22, 23, 24], [0, 1, 2, 3, 4, 5, 6, 7, 8, 9, 10, 11, 12, 13, 14, 15, 16, 17, 18, 19, 20, 21, 22, 23, 24, 25], [0, 1, 2, 3, 4, 5, 6, 7, 8, 9, 10, 11, 12, 13, 14, 15, 16, 17, 18, 19, 20, 21, 22, 23, 24, 25, 26], [0, 1, 2, 3, 4, 5, 6, 7, 8, 9, 10, 11, 12, 13, 14, 15, 16, 17, 18, 19, 20, 21, 22, 23, 24, 25, 26, 27], [0, 1, 2, 3, 4, 5, 6, 7, 8, 9, 10, 11, 12, 13, 14, 15, 16, 17, 18, 19, 20, 21, 22, 23, 24, 25, 26, 27, 28], [0, 1, 2, 3, 4, 5, 6, 7, 8, 9, 10, 11, 12, 13, 14, 15, 16, 17, 18, 19, 20, 21, 22, 23, 24, 25, 26, 27, 28, 29], [0, 1, 2, 3, 4, 5, 6, 7, 8, 9, 10, 11, 12, 13, 14, 15, 16, 17, 18, 19, 20, 21, 22, 23, 24, 25, 26, 27, 28, 29, 30], [0, 1, 2, 3, 4, 5, 6, 7, 8, 9, 10, 11, 12, 13, 14, 15, 16, 17, 18, 19, 20, 21, 22, 23, 24, 25, 26, 27, 28, 29, 30, 31], [0, 1, 2, 3, 4, 5, 6, 7, 8, 9, 10, 11, 12, 13, 14, 15, 16, 17, 18, 19, 20, 21, 22, 23, 24, 25, 26, 27, 28, 29, 30, 31, 32], [0, 1, 2, 3, 4, 5, 6, 7, 8, 9, 10, 11, 12, 13, 14, 15, 16, 17, 18, 19, 20, 21, 22, 23, 24, 25, 26, 27, 28, 29, 30, 31, 32, 33], [0, 1, 2, 3, 4, 5, 6, 7, 8, 9, 10, 11, 12, 13, 14, 15, 16, 17, 18, 19, 20, 21, 22, 23, 24, 25, 26, 27, 28, 29, 30, 31, 32, 33, 34], [0, 1, 2, 3, 4, 5, 6, 7, 8, 9, 10, 11, 12, 13, 14, 15, 16, 17, 18, 19, 20, 21, 22, 23, 24, 25, 26, 27, 28, 29, 30, 31, 32, 33, 34, 35], [0, 1, 2, 3, 4, 5, 6, 7, 8, 9, 10, 11, 12, 13, 14, 15, 16, 17, 18, 19, 20, 21, 22, 23, 24, 25, 26, 27, 28, 29, 30, 31, 32, 33, 34, 35, 36], [0, 1, 2, 3, 4, 5, 6, 7, 8, 9, 10, 11, 12, 13, 14, 15, 16, 17, 18, 19, 20, 21, 22, 23, 24, 25, 26, 27, 28, 29, 30, 31, 32, 33, 34, 35, 36, 37], [0, 1, 2, 3, 4, 5, 6, 7, 8, 9, 10, 11, 12, 13, 14, 15, 16, 17, 18, 19, 20, 21, 22, 23, 24, 25, 26, 27, 28, 29, 30, 31, 32, 33, 34, 35, 36, 37, 38], [0, 1, 2, 3, 4, 5, 6, 7, 8, 9, 10, 11, 12, 13, 14, 15, 16, 17, 18, 19, 20, 21, 22, 23, 24, 25, 26, 27, 28, 29, 30, 31, 32, 33, 34, 35, 36, 37, 38, 39]]
          [fun u _ => u = .bool false,
           fun u _ => u = .bool true,
           fun u _ => u = .bool true,
           fun u _ => u = .pointer (some ⟨k3, 0, none⟩),
           fun u _ => u = .int .i64 dst,
           fun u _ => u = .pointer (some ⟨kp, 1, none⟩),
           fun u _ => u = .int .i64 dst,
           fun u _ => u = .bool true,
           fun u _ => u = .bool true,
           fun u _ => u = .bool true,
           fun u _ => u = .pointer (some ⟨k3, 3, none⟩),
           fun u _ => u = .int .i64 sp,
           fun u _ => u = .pointer (some ⟨kp, 2, none⟩),
           fun u _ => u = .int .i64 sp,
           fun u _ => u = .bool true,
           fun u _ => u = .bool true,
           fun u _ => u = .bool true,
           fun u _ => u = .pointer (some ⟨k3, 5, none⟩),
           fun u _ => u = .int .u32 (KA : Int),
           fun u _ => u = .pointer (some ⟨kp, 4, none⟩),
           fun u _ => u = .int .u32 (seq : Int),
           fun u _ => u = .int .u32 (T : Int),
           fun u _ => u = .agg #[.int .i64 src, .int .i64 dst, .int .i64 sp, .int .i64 dp, .int .u32 (seq : Int), .int .u32 (ack : Int), .int .i64 fl, .int .i64 wn, .int .i64 pr, .int .i64 og, .slice A n c],
           fun u _ => u = .int .i64 (T : Int),
           fun u _ => u = .int .u32 (T : Int),
           fun u _ => u = .bool true,
           fun u _ => u = .bool true,
           fun u _ => u = .bool true,
           fun u _ => u = .agg #[.int .i64 src, .int .i64 dst, .int .i64 sp, .int .i64 dp, .int .u32 (seq : Int), .int .u32 (ack : Int), .int .i64 fl, .int .i64 wn, .int .i64 pr, .int .i64 og, .slice A n c],
           fun u _ => u = .int .i64 0,
           fun u _ => u = .bool false,
           fun u _ => u = .bool false,
           fun u _ => u = .agg #[.int .i64 dst, .int .i64 src, .int .i64 dp, .int .i64 sp, .int .u32 (s4 : Int), .int .u32 (KA : Int), .int .i64 10, .int .i64 0, .int .i64 0, .int .i64 0, .slice none 0 0],
           fun u _ => u = .int .i64 0,
           fun u _ => u = .bool true,
           fun u _ => u = .bool true,
           fun u _ => u = .bool true,
           fun u _ => u = .bool true,
           fun u _ => u = .bool true,
           fun u _ => u = .bool true,
           fun u _ => u = .bool true]
          (fun u => ⟨#[Value.agg #[Value.int IntKind.i64 src, Value.int IntKind.i64 dst, Value.int IntKind.i64 sp, Value.int IntKind.i64 dp, Value.int IntKind.u32 (seq : Int), Value.int IntKind.u32 (ack : Int), Value.int IntKind.i64 fl, Value.int IntKind.i64 wn, Value.int IntKind.i64 pr, Value.int IntKind.i64 og, Value.slice A n c], Value.pointer (some { block := kp, off := 0 }), u 40, Value.pointer (some { block := k3, off := 0 }), Value.bool true, Value.pointer (some { block := k5, off := 0 }), Value.bool false, Value.pointer (some { block := kp, off := 10 }), Value.slice A n c, Value.int IntKind.i64 (n : Int), Value.bool (decide (16384 < (n : Int))), undef, Value.tuple #[Value.agg #[Value.int IntKind.i64 dst, Value.int IntKind.i64 src, Value.int IntKind.i64 dp, Value.int IntKind.i64 sp, Value.int IntKind.u32 (s4 : Int), Value.int IntKind.u32 (KA : Int), Value.int IntKind.i64 10, Value.int IntKind.i64 0, Value.int IntKind.i64 0, Value.int IntKind.i64 0, Value.slice none 0 0], Value.bool true], Value.agg #[Value.int IntKind.i64 src, Value.int IntKind.i64 dst, Value.int IntKind.i64 sp, Value.int IntKind.i64 dp, Value.int IntKind.u32 (seq : Int), Value.int IntKind.u32 (ack : Int), Value.int IntKind.i64 fl, Value.int IntKind.i64 wn, Value.int IntKind.i64 pr, Value.int IntKind.i64 og, Value.slice A n c], Value.tuple #[Value.agg #[Value.int IntKind.i64 dst, Value.int IntKind.i64 src, Value.int IntKind.i64 dp, Value.int IntKind.i64 sp, Value.int IntKind.u32 (s4 : Int), Value.int IntKind.u32 (KA : Int), Value.int IntKind.i64 10, Value.int IntKind.i64 0, Value.int IntKind.i64 0, Value.int IntKind.i64 0, Value.slice none 0 0], Value.bool true], Value.agg #[Value.int IntKind.i64 dst, Value.int IntKind.i64 src, Value.int IntKind.i64 dp, Value.int IntKind.i64 sp, Value.int IntKind.u32 (s4 : Int), Value.int IntKind.u32 (KA : Int), Value.int IntKind.i64 10, Value.int IntKind.i64 0, Value.int IntKind.i64 0, Value.int IntKind.i64 0, Value.slice none 0 0], Value.bool true, Value.tuple #[Value.agg #[Value.int IntKind.i64 0, Value.int IntKind.i64 0, Value.int IntKind.i64 0, Value.int IntKind.i64 0, Value.int IntKind.u32 0, Value.int IntKind.u32 0, Value.int IntKind.i64 0, Value.int IntKind.i64 0, Value.int IntKind.i64 0, Value.int IntKind.i64 0, Value.slice none 0 0], Value.bool false], Value.agg #[Value.int IntKind.i64 dst, Value.int IntKind.i64 src, Value.int IntKind.i64 dp, Value.int IntKind.i64 sp, Value.int IntKind.u32 (s4 : Int), Value.int IntKind.u32 (KA : Int), Value.int IntKind.i64 10, Value.int IntKind.i64 0, Value.int IntKind.i64 0, Value.int IntKind.i64 0, Value.slice none 0 0], Value.tuple #[Value.agg #[Value.int IntKind.i64 0, Value.int IntKind.i64 0, Value.int IntKind.i64 0, Value.int IntKind.i64 0, Value.int IntKind.u32 0, Value.int IntKind.u32 0, Value.int IntKind.i64 0, Value.int IntKind.i64 0, Value.int IntKind.i64 0, Value.int IntKind.i64 0, Value.slice none 0 0], Value.bool false], Value.agg #[Value.int IntKind.i64 0, Value.int IntKind.i64 0, Value.int IntKind.i64 0, Value.int IntKind.i64 0, Value.int IntKind.u32 0, Value.int IntKind.u32 0, Value.int IntKind.i64 0, Value.int IntKind.i64 0, Value.int IntKind.i64 0, Value.int IntKind.i64 0, Value.slice none 0 0], Value.bool false, Value.bool true, Value.bool false, undef, undef, undef, undef, undef, undef, undef, undef, undef, undef, undef, undef, u 0, u 1, u 2, u 3, u 4, u 5, u 6, u 7, u 8, u 9, u 10, u 11, u 12, u 13, u 14, u 15, u 16, u 17, u 18, u 19, u 20, u 21, u 22, u 23, u 24, u 25, u 26, u 27, u 28, u 29, u 30, u 31, u 32, u 33, u 34, u 35, u 36, u 37, u 38, u 39], []⟩)
          (fun j => [undef, undef, undef, undef, undef, undef, undef, undef, undef, undef, undef, undef, undef, undef, undef, undef, undef, undef, undef, undef, undef, undef, undef, undef, undef, undef, undef, undef, undef, undef, undef, undef, undef, undef, undef, undef, undef, undef, undef, undef, Value.bool false].getD j undef) (by kernel_rfl) (by kernel_rfl) (by kernel_rfl) rfl ⟨Mono.eq _, Mono.eq _, Mono.eq _, Mono.eq _, Mono.eq _, Mono.eq _, Mono.eq _, Mono.eq _, Mono.eq _, Mono.eq _, Mono.eq _, Mono.eq _, Mono.eq _, Mono.eq _, Mono.eq _, Mono.eq _, Mono.eq _, Mono.eq _, Mono.eq _, Mono.eq _, Mono.eq _, Mono.eq _, Mono.eq _, Mono.eq _, Mono.eq _, Mono.eq _, Mono.eq _, Mono.eq _, Mono.eq _, Mono.eq _, Mono.eq _, Mono.eq _, Mono.eq _, Mono.eq _, Mono.eq _, Mono.eq _, Mono.eq _, Mono.eq _, Mono.eq _, Mono.eq _, Mono.eq _, trivial⟩ ?_ ?_
        · refine ⟨?_, ?_, ?_, ?_, ?_, ?_, ?_, ?_, ?_, ?_, ?_, ?_, ?_, ?_, ?_, ?_, ?_, ?_, ?_, ?_, ?_, ?_, ?_, ?_, ?_, ?_, ?_, ?_, ?_, ?_, ?_, ?_, ?_, ?_, ?_, ?_, ?_, ?_, ?_, ?_, ?_, trivial⟩
          · intro u w2 hb hF J K hJ hK
            have HB2 := Lib.hid hb
            have HF := Lib.hid hF
            clear hb hF
            go_wp2
            exact hJ _ _ _ (Below.refl _ _) (rfl) (by simp [setU] <;> omega)
          · intro u w2 hb hF J K hJ hK
            have HB2 := Lib.hid hb
            have HF := Lib.hid hF
            clear hb hF
            have f0 : u 0 = .bool false := HF.out 0 (by decide)
            go_wp2
            exact hJ _ _ _ (Below.refl _ _) (rfl) (by simp [setU, f0] <;> omega)
          · intro u w2 hb hF J K hJ hK
            have HB2 := Lib.hid hb
            have HF := Lib.hid hF
            clear hb hF
            have f1 : u 1 = .bool true := HF.out 1 (by decide)
            go_wp2
            exact hJ _ _ _ (Below.refl _ _) (rfl) (by simp [setU, f1] <;> omega)
          · intro u w2 hb hF J K hJ hK
            have HB2 := Lib.hid hb
            have HF := Lib.hid hF
            clear hb hF
            have f2 : u 2 = .bool true := HF.out 2 (by decide)
            go_wp2
            exact hJ _ _ _ (Below.refl _ _) (rfl) (by simp [setU, f2] <;> omega)
          · intro u w2 hb hF J K hJ hK
            have HB2 := Lib.hid hb
            have HF := Lib.hid hF
            clear hb hF
            have f2 : u 2 = .bool true := HF.out 2 (by decide)
            have f3 : u 3 = .pointer (some ⟨k3, 0, none⟩) := HF.out 3 (by decide)
            have q0 : w2.cell? ⟨k3, 0, none⟩ = some (.int .i64 dst) := (HA7.out.ext HB2.out).cell rfl
            go_wp2
            exact hJ _ _ _ (Below.refl _ _) (rfl) (by simp [setU, f2, f3] <;> omega)
          · intro u w2 hb hF J K hJ hK
            have HB2 := Lib.hid hb
            have HF := Lib.hid hF
            clear hb hF
            have f2 : u 2 = .bool true := HF.out 2 (by decide)
            go_wp2
            exact hJ _ _ _ (Below.refl _ _) (rfl) (by simp [setU, f2] <;> omega)
          · intro u w2 hb hF J K hJ hK
            have HB2 := Lib.hid hb
            have HF := Lib.hid hF
            clear hb hF
            have f2 : u 2 = .bool true := HF.out 2 (by decide)
            have f5 : u 5 = .pointer (some ⟨kp, 1, none⟩) := HF.out 5 (by decide)
            have q1 : w2.cell? ⟨kp, 1, none⟩ = some (.int .i64 dst) := (HP7.out.ext HB2.out).cell rfl
            go_wp2
            exact hJ _ _ _ (Below.refl _ _) (rfl) (by simp [setU, f2, f5] <;> omega)
          · intro u w2 hb hF J K hJ hK
            have HB2 := Lib.hid hb
            have HF := Lib.hid hF
            clear hb hF
            have f2 : u 2 = .bool true := HF.out 2 (by decide)
            have f4 : u 4 = .int .i64 dst := HF.out 4 (by decide)
            have f6 : u 6 = .int .i64 dst := HF.out 6 (by decide)
            go_wp2
            exact hJ _ _ _ (Below.refl _ _) (rfl) (by simp [setU, f2, f4, f6] <;> omega)
          · intro u w2 hb hF J K hJ hK
            have HB2 := Lib.hid hb
            have HF := Lib.hid hF
            clear hb hF
            have f2 : u 2 = .bool true := HF.out 2 (by decide)
            have f7 : u 7 = .bool true := HF.out 7 (by decide)
            go_wp2
            exact hJ _ _ _ (Below.refl _ _) (rfl) (by simp [setU, f2, f7] <;> omega)
          · intro u w2 hb hF J K hJ hK
            have HB2 := Lib.hid hb
            have HF := Lib.hid hF
            clear hb hF
            have f8 : u 8 = .bool true := HF.out 8 (by decide)
            go_wp2
            exact hJ _ _ _ (Below.refl _ _) (rfl) (by simp [setU, f8] <;> omega)
          · intro u w2 hb hF J K hJ hK
            have HB2 := Lib.hid hb
            have HF := Lib.hid hF
            clear hb hF
            have f9 : u 9 = .bool true := HF.out 9 (by decide)
            go_wp2
            exact hJ _ _ _ (Below.refl _ _) (rfl) (by simp [setU, f9] <;> omega)
          · intro u w2 hb hF J K hJ hK
            have HB2 := Lib.hid hb
            have HF := Lib.hid hF
            clear hb hF
            have f9 : u 9 = .bool true := HF.out 9 (by decide)
            have f10 : u 10 = .pointer (some ⟨k3, 3, none⟩) := HF.out 10 (by decide)
            have q3 : w2.cell? ⟨k3, 3, none⟩ = some (.int .i64 sp) := (HA7.out.ext HB2.out).cell rfl
            go_wp2
            exact hJ _ _ _ (Below.refl _ _) (rfl) (by simp [setU, f9, f10] <;> omega)
          · intro u w2 hb hF J K hJ hK
            have HB2 := Lib.hid hb
            have HF := Lib.hid hF
            clear hb hF
            have f9 : u 9 = .bool true := HF.out 9 (by decide)
            go_wp2
            exact hJ _ _ _ (Below.refl _ _) (rfl) (by simp [setU, f9] <;> omega)
          · intro u w2 hb hF J K hJ hK
            have HB2 := Lib.hid hb
            have HF := Lib.hid hF
            clear hb hF
            have f9 : u 9 = .bool true := HF.out 9 (by decide)
            have f12 : u 12 = .pointer (some ⟨kp, 2, none⟩) := HF.out 12 (by decide)
            have q2 : w2.cell? ⟨kp, 2, none⟩ = some (.int .i64 sp) := (HP7.out.ext HB2.out).cell rfl
            go_wp2
            exact hJ _ _ _ (Below.refl _ _) (rfl) (by simp [setU, f9, f12] <;> omega)
          · intro u w2 hb hF J K hJ hK
            have HB2 := Lib.hid hb
            have HF := Lib.hid hF
            clear hb hF
            have f9 : u 9 = .bool true := HF.out 9 (by decide)
            have f11 : u 11 = .int .i64 sp := HF.out 11 (by decide)
            have f13 : u 13 = .int .i64 sp := HF.out 13 (by decide)
            go_wp2
            exact hJ _ _ _ (Below.refl _ _) (rfl) (by simp [setU, f9, f11, f13] <;> omega)
          · intro u w2 hb hF J K hJ hK
            have HB2 := Lib.hid hb
            have HF := Lib.hid hF
            clear hb hF
            have f9 : u 9 = .bool true := HF.out 9 (by decide)
            have f14 : u 14 = .bool true := HF.out 14 (by decide)
            go_wp2
            exact hJ _ _ _ (Below.refl _ _) (rfl) (by simp [setU, f9, f14] <;> omega)
          · intro u w2 hb hF J K hJ hK
            have HB2 := Lib.hid hb
            have HF := Lib.hid hF
            clear hb hF
            have f15 : u 15 = .bool true := HF.out 15 (by decide)
            go_wp2
            exact hJ _ _ _ (Below.refl _ _) (rfl) (by simp [setU, f15] <;> omega)
          · intro u w2 hb hF J K hJ hK
            have HB2 := Lib.hid hb
            have HF := Lib.hid hF
            clear hb hF
            have f16 : u 16 = .bool true := HF.out 16 (by decide)
            go_wp2
            exact hJ _ _ _ (Below.refl _ _) (rfl) (by simp [setU, f16] <;> omega)
          · intro u w2 hb hF J K hJ hK
            have HB2 := Lib.hid hb
            have HF := Lib.hid hF
            clear hb hF
            have f16 : u 16 = .bool true := HF.out 16 (by decide)
            have f17 : u 17 = .pointer (some ⟨k3, 5, none⟩) := HF.out 17 (by decide)
            have q5 : w2.cell? ⟨k3, 5, none⟩ = some (.int .u32 (KA : Int)) := (HA7.out.ext HB2.out).cell rfl
            go_wp2
            exact hJ _ _ _ (Below.refl _ _) (rfl) (by simp [setU, f16, f17] <;> omega)
          · intro u w2 hb hF J K hJ hK
            have HB2 := Lib.hid hb
            have HF := Lib.hid hF
            clear hb hF
            have f16 : u 16 = .bool true := HF.out 16 (by decide)
            go_wp2
            exact hJ _ _ _ (Below.refl _ _) (rfl) (by simp [setU, f16] <;> omega)
          · intro u w2 hb hF J K hJ hK
            have HB2 := Lib.hid hb
            have HF := Lib.hid hF
            clear hb hF
            have f16 : u 16 = .bool true := HF.out 16 (by decide)
            have f19 : u 19 = .pointer (some ⟨kp, 4, none⟩) := HF.out 19 (by decide)
            have q4 : w2.cell? ⟨kp, 4, none⟩ = some (.int .u32 (seq : Int)) := (HP7.out.ext HB2.out).cell rfl
            go_wp2
            exact hJ _ _ _ (Below.refl _ _) (rfl) (by simp [setU, f16, f19] <;> omega)
          · intro u w2 hb hF J K hJ hK
            have HB2 := Lib.hid hb
            have HF := Lib.hid hF
            clear hb hF
            have f16 : u 16 = .bool true := HF.out 16 (by decide)
            have f18 : u 18 = .int .u32 (KA : Int) := HF.out 18 (by decide)
            have f20 : u 20 = .int .u32 (seq : Int) := HF.out 20 (by decide)
            have e57 := hKT.out
            go_wp2
            exact hJ _ _ _ (Below.refl _ _) (rfl) (by simp [setU, f16, f18, f20] <;> omega)
          · intro u w2 hb hF J K hJ hK
            have HB2 := Lib.hid hb
            have HF := Lib.hid hF
            clear hb hF
            have f16 : u 16 = .bool true := HF.out 16 (by decide)
            have q0 : w2.cell? ⟨kp, 0, none⟩ = some (.int .i64 src) := (HP7.out.ext HB2.out).cell rfl
            have q1 : w2.cell? ⟨kp, 1, none⟩ = some (.int .i64 dst) := (HP7.out.ext HB2.out).cell rfl
            have q2 : w2.cell? ⟨kp, 2, none⟩ = some (.int .i64 sp) := (HP7.out.ext HB2.out).cell rfl
            have q3 : w2.cell? ⟨kp, 3, none⟩ = some (.int .i64 dp) := (HP7.out.ext HB2.out).cell rfl
            have q4 : w2.cell? ⟨kp, 4, none⟩ = some (.int .u32 (seq : Int)) := (HP7.out.ext HB2.out).cell rfl
            have q5 : w2.cell? ⟨kp, 5, none⟩ = some (.int .u32 (ack : Int)) := (HP7.out.ext HB2.out).cell rfl
            have q6 : w2.cell? ⟨kp, 6, none⟩ = some (.int .i64 fl) := (HP7.out.ext HB2.out).cell rfl
            have q7 : w2.cell? ⟨kp, 7, none⟩ = some (.int .i64 wn) := (HP7.out.ext HB2.out).cell rfl
            have q8 : w2.cell? ⟨kp, 8, none⟩ = some (.int .i64 pr) := (HP7.out.ext HB2.out).cell rfl
            have q9 : w2.cell? ⟨kp, 9, none⟩ = some (.int .i64 og) := (HP7.out.ext HB2.out).cell rfl
            have q10 : w2.cell? ⟨kp, 10, none⟩ = some (.slice A n c) := (HP7.out.ext HB2.out).cell rfl
            go_wp2
            exact hJ _ _ _ (Below.refl _ _) (rfl) (by simp [setU, f16] <;> omega)
          · intro u w2 hb hF J K hJ hK
            have HB2 := Lib.hid hb
            have HF := Lib.hid hF
            clear hb hF
            have f16 : u 16 = .bool true := HF.out 16 (by decide)
            have f22 : u 22 = .agg #[.int .i64 src, .int .i64 dst, .int .i64 sp, .int .i64 dp, .int .u32 (seq : Int), .int .u32 (ack : Int), .int .i64 fl, .int .i64 wn, .int .i64 pr, .int .i64 og, .slice A n c] := HF.out 22 (by decide)
            go_wp2_with fail
            refine (HTK.out w2).mono ?_
            rintro e w4 ⟨rfl, hb4⟩
            have HB4 := Lib.hid hb4
            clear hb4
            go_wp2
            exact hJ _ _ _ (HB4.out) (rfl) (by simp [setU, f16, f22] <;> omega)
          · intro u w2 hb hF J K hJ hK
            have HB2 := Lib.hid hb
            have HF := Lib.hid hF
            clear hb hF
            have f16 : u 16 = .bool true := HF.out 16 (by decide)
            have f23 : u 23 = .int .i64 (T : Int) := HF.out 23 (by decide)
            have e60 : IntKind.u32.wrap (T : Int) = (T : Int) := IntWalk.u32_in _ (by have := HT2.out; have := HN1.out; omega)
            go_wp2
            exact hJ _ _ _ (Below.refl _ _) (rfl) (by simp [setU, f16, f23] <;> omega)
          · intro u w2 hb hF J K hJ hK
            have HB2 := Lib.hid hb
            have HF := Lib.hid hF
            clear hb hF
            have f16 : u 16 = .bool true := HF.out 16 (by decide)
            have f21 : u 21 = .int .u32 (T : Int) := HF.out 21 (by decide)
            have f24 : u 24 = .int .u32 (T : Int) := HF.out 24 (by decide)
            go_wp2
            exact hJ _ _ _ (Below.refl _ _) (rfl) (by simp [setU, f16, f21, f24] <;> omega)
          · intro u w2 hb hF J K hJ hK
            have HB2 := Lib.hid hb
            have HF := Lib.hid hF
            clear hb hF
            have f16 : u 16 = .bool true := HF.out 16 (by decide)
            have f25 : u 25 = .bool true := HF.out 25 (by decide)
            go_wp2
            exact hJ _ _ _ (Below.refl _ _) (rfl) (by simp [setU, f16, f25] <;> omega)
          · intro u w2 hb hF J K hJ hK
            have HB2 := Lib.hid hb
            have HF := Lib.hid hF
            clear hb hF
            have f26 : u 26 = .bool true := HF.out 26 (by decide)
            go_wp2
            exact hJ _ _ _ (Below.refl _ _) (rfl) (by simp [setU, f26] <;> omega)
          · intro u w2 hb hF J K hJ hK
            have HB2 := Lib.hid hb
            have HF := Lib.hid hF
            clear hb hF
            have f27 : u 27 = .bool true := HF.out 27 (by decide)
            have q0 : w2.cell? ⟨kp, 0, none⟩ = some (.int .i64 src) := (HP7.out.ext HB2.out).cell rfl
            have q1 : w2.cell? ⟨kp, 1, none⟩ = some (.int .i64 dst) := (HP7.out.ext HB2.out).cell rfl
            have q2 : w2.cell? ⟨kp, 2, none⟩ = some (.int .i64 sp) := (HP7.out.ext HB2.out).cell rfl
            have q3 : w2.cell? ⟨kp, 3, none⟩ = some (.int .i64 dp) := (HP7.out.ext HB2.out).cell rfl
            have q4 : w2.cell? ⟨kp, 4, none⟩ = some (.int .u32 (seq : Int)) := (HP7.out.ext HB2.out).cell rfl
            have q5 : w2.cell? ⟨kp, 5, none⟩ = some (.int .u32 (ack : Int)) := (HP7.out.ext HB2.out).cell rfl
            have q6 : w2.cell? ⟨kp, 6, none⟩ = some (.int .i64 fl) := (HP7.out.ext HB2.out).cell rfl
            have q7 : w2.cell? ⟨kp, 7, none⟩ = some (.int .i64 wn) := (HP7.out.ext HB2.out).cell rfl
            have q8 : w2.cell? ⟨kp, 8, none⟩ = some (.int .i64 pr) := (HP7.out.ext HB2.out).cell rfl
            have q9 : w2.cell? ⟨kp, 9, none⟩ = some (.int .i64 og) := (HP7.out.ext HB2.out).cell rfl
            have q10 : w2.cell? ⟨kp, 10, none⟩ = some (.slice A n c) := (HP7.out.ext HB2.out).cell rfl
            go_wp2
            exact hJ _ _ _ (Below.refl _ _) (rfl) (by simp [setU, f27] <;> omega)
          · intro u w2 hb hF J K hJ hK
            have HB2 := Lib.hid hb
            have HF := Lib.hid hF
            clear hb hF
            have f27 : u 27 = .bool true := HF.out 27 (by decide)
            have f28 : u 28 = .agg #[.int .i64 src, .int .i64 dst, .int .i64 sp, .int .i64 dp, .int .u32 (seq : Int), .int .u32 (ack : Int), .int .i64 fl, .int .i64 wn, .int .i64 pr, .int .i64 og, .slice A n c] := HF.out 28 (by decide)
            go_wp2_with fail
            refine (HC1.out w2).mono ?_
            rintro e w4 ⟨rfl, hb4⟩
            have HB4 := Lib.hid hb4
            clear hb4
            go_wp2
            exact hJ _ _ _ (HB4.out) (rfl) (by simp [setU, f27, f28] <;> omega)
          · intro u w2 hb hF J K hJ hK
            have HB2 := Lib.hid hb
            have HF := Lib.hid hF
            clear hb hF
            have f27 : u 27 = .bool true := HF.out 27 (by decide)
            have f29 : u 29 = .int .i64 0 := HF.out 29 (by decide)
            go_wp2
            exact hJ _ _ _ (Below.refl _ _) (rfl) (by simp [setU, f27, f29] <;> omega)
          · intro u w2 hb hF J K hJ hK
            have HB2 := Lib.hid hb
            have HF := Lib.hid hF
            clear hb hF
            have f27 : u 27 = .bool true := HF.out 27 (by decide)
            have f30 : u 30 = .bool false := HF.out 30 (by decide)
            go_wp2
            exact hJ _ _ _ (Below.refl _ _) (rfl) (by simp [setU, f27, f30] <;> omega)
          · intro u w2 hb hF J K hJ hK
            have HB2 := Lib.hid hb
            have HF := Lib.hid hF
            clear hb hF
            have f31 : u 31 = .bool false := HF.out 31 (by decide)
            have q0 : w2.cell? ⟨k3, 0, none⟩ = some (.int .i64 dst) := (HA7.out.ext HB2.out).cell rfl
            have q1 : w2.cell? ⟨k3, 1, none⟩ = some (.int .i64 src) := (HA7.out.ext HB2.out).cell rfl
            have q2 : w2.cell? ⟨k3, 2, none⟩ = some (.int .i64 dp) := (HA7.out.ext HB2.out).cell rfl
            have q3 : w2.cell? ⟨k3, 3, none⟩ = some (.int .i64 sp) := (HA7.out.ext HB2.out).cell rfl
            have q4 : w2.cell? ⟨k3, 4, none⟩ = some (.int .u32 (s4 : Int)) := (HA7.out.ext HB2.out).cell rfl
            have q5 : w2.cell? ⟨k3, 5, none⟩ = some (.int .u32 (KA : Int)) := (HA7.out.ext HB2.out).cell rfl
            have q6 : w2.cell? ⟨k3, 6, none⟩ = some (.int .i64 10) := (HA7.out.ext HB2.out).cell rfl
            have q7 : w2.cell? ⟨k3, 7, none⟩ = some (.int .i64 0) := (HA7.out.ext HB2.out).cell rfl
            have q8 : w2.cell? ⟨k3, 8, none⟩ = some (.int .i64 0) := (HA7.out.ext HB2.out).cell rfl
            have q9 : w2.cell? ⟨k3, 9, none⟩ = some (.int .i64 0) := (HA7.out.ext HB2.out).cell rfl
            have q10 : w2.cell? ⟨k3, 10, none⟩ = some (.slice none 0 0) := (HA7.out.ext HB2.out).cell rfl
            go_wp2
            exact hJ _ _ _ (Below.refl _ _) (rfl) (by simp [setU, f31] <;> omega)
          · intro u w2 hb hF J K hJ hK
            have HB2 := Lib.hid hb
            have HF := Lib.hid hF
            clear hb hF
            have f31 : u 31 = .bool false := HF.out 31 (by decide)
            have f32 : u 32 = .agg #[.int .i64 dst, .int .i64 src, .int .i64 dp, .int .i64 sp, .int .u32 (s4 : Int), .int .u32 (KA : Int), .int .i64 10, .int .i64 0, .int .i64 0, .int .i64 0, .slice none 0 0] := HF.out 32 (by decide)
            go_wp2_with fail
            refine (HC2.out w2).mono ?_
            rintro e w4 ⟨rfl, hb4⟩
            have HB4 := Lib.hid hb4
            clear hb4
            go_wp2
            exact hJ _ _ _ (HB4.out) (rfl) (by simp [setU, f31, f32] <;> omega)
          · intro u w2 hb hF J K hJ hK
            have HB2 := Lib.hid hb
            have HF := Lib.hid hF
            clear hb hF
            have f31 : u 31 = .bool false := HF.out 31 (by decide)
            have f33 : u 33 = .int .i64 0 := HF.out 33 (by decide)
            go_wp2
            exact hJ _ _ _ (Below.refl _ _) (rfl) (by simp [setU, f31, f33] <;> omega)
          · intro u w2 hb hF J K hJ hK
            have HB2 := Lib.hid hb
            have HF := Lib.hid hF
            clear hb hF
            have f27 : u 27 = .bool true := HF.out 27 (by decide)
            have f31 : u 31 = .bool false := HF.out 31 (by decide)
            have f34 : u 34 = .bool true := HF.out 34 (by decide)
            go_wp2
            exact hJ _ _ _ (Below.refl _ _) (rfl) (by simp [setU, f27, f31, f34] <;> omega)
          · intro u w2 hb hF J K hJ hK
            have HB2 := Lib.hid hb
            have HF := Lib.hid hF
            clear hb hF
            have f27 : u 27 = .bool true := HF.out 27 (by decide)
            have f35 : u 35 = .bool true := HF.out 35 (by decide)
            go_wp2
            exact hJ _ _ _ (Below.refl _ _) (rfl) (by simp [setU, f27, f35] <;> omega)
          · intro u w2 hb hF J K hJ hK
            have HB2 := Lib.hid hb
            have HF := Lib.hid hF
            clear hb hF
            have f36 : u 36 = .bool true := HF.out 36 (by decide)
            go_wp2
            exact hJ _ _ _ (Below.refl _ _) (rfl) (by simp [setU, f36] <;> omega)
          · intro u w2 hb hF J K hJ hK
            have HB2 := Lib.hid hb
            have HF := Lib.hid hF
            clear hb hF
            have f37 : u 37 = .bool true := HF.out 37 (by decide)
            go_wp2_with fail
            refine (awake_calls w2).mono ?_
            rintro e w4 ⟨rfl, hb4⟩
            have HB4 := Lib.hid hb4
            clear hb4
            go_wp2
            exact hJ _ _ _ (HB4.out) (rfl) (by simp [setU, f37] <;> omega)
          · intro u w2 hb hF J K hJ hK
            have HB2 := Lib.hid hb
            have HF := Lib.hid hF
            clear hb hF
            have f37 : u 37 = .bool true := HF.out 37 (by decide)
            have f38 : u 38 = .bool true := HF.out 38 (by decide)
            go_wp2
            exact hJ _ _ _ (Below.refl _ _) (rfl) (by simp [setU, f37, f38] <;> omega)
          · intro u w2 hb hF J K hJ hK
            have HB2 := Lib.hid hb
            have HF := Lib.hid hF
            clear hb hF
            have f39 : u 39 = .bool true := HF.out 39 (by decide)
            go_wp2
            exact hJ _ _ _ (Below.refl _ _) (rfl) (by simp [setU, f39] <;> omega)
        · intro u w2 hb hF
          have HB2 := Lib.hid hb
          have f40 : u 40 = .bool true := hF 40 (by decide)
          clear hb hF
          have HB8 := Lib.hid (HB7.out.trans (HB2.out.mono HB7.out.size))
          clear HB2
          dsimp only
          rw [f40]
          go_wp2
          go_ret
          exact ⟨rfl, HB8.out⟩
      | false =>
        have HC1 : Hid (∀ W : World, Calls Try.prog 15 #[.agg #[.int .i64 src, .int .i64 dst, .int .i64 sp, .int .i64 dp, .int .u32 (seq : Int), .int .u32 (ack : Int), .int .i64 fl, .int .i64 wn, .int .i64 pr, .int .i64 og, .slice A n c]] W fun e w' => e = .returned (.int .i64 40) ∧ Below W.heap.size W w') := HCKP
        refine wp_region_facts [[], [0], [0, 1], [0, 1, 2], [0, 1, 2, 3], [0, 1, 2], [0, 1, 2, 5], [0, 1, 2, 3, 4, 5, 6], [0, 1, 2, 3, 4, 5, 6, 7], [0, 1, 2, 3, 4, 5, 6, 7, 8], [0, 1, 2, 3, 4, 5, 6, 7, 8, 9], [0, 1, 2, 3, 4, 5, 6, 7, 8, 9, 10], [0, 1, 2, 3, 4, 5, 6, 7, 8, 9], [0, 1, 2, 3, 4, 5, 6, 7, 8, 9, 12], [0, 1, 2, 3, 4, 5, 6, 7, 8, 9, 10, 11, 12, 13], [0, 1, 2, 3, 4, 5, 6, 7, 8, 9, 10, 11, 12, 13, 14], [0, 1, 2, 3, 4, 5, 6, 7, 8, 9, 10, 11, 12, 13, 14, 15], [0, 1, 2, 3, 4, 5, 6, 7, 8, 9, 10, 11, 12, 13, 14, 15, 16], [0, 1, 2, 3, 4, 5, 6, 7, 8, 9, 10, 11, 12, 13, 14, 15, 16, 17], [0, 1, 2, 3, 4, 5, 6, 7, 8, 9, 10, 11, 12, 13, 14, 15, 16], [0, 1, 2, 3, 4, 5, 6, 7, 8, 9, 10, 11, 12, 13, 14, 15, 16, 19], [0, 1, 2, 3, 4, 5, 6, 7, 8, 9, 10, 11, 12, 13, 14, 15, 16, 17, 18, 19, 20], [0, 1, 2, 3, 4, 5, 6, 7, 8, 9, 10, 11, 12, 13, 14, 15, 16], [0, 1, 2, 3, 4, 5, 6, 7, 8, 9, 10, 11, 12, 13, 14, 15, 16, 22], [0, 1, 2, 3, 4, 5, 6, 7, 8, 9, 10, 11, 12, 13, 14, 15, 16, 22, 23], [0, 1, 2, 3, 4, 5, 6, 7, 8, 9, 10, 11, 12, 13, 14, 15, 16, 17, 18, 19, 20, 21, 22, 23, 24], [0, 1, 2, 3, 4, 5, 6, 7, 8, 9, 10, 11, 12, 13, 14, 15, 16, 17, 18, 19, 20, 21, 22, 23, 24, 25], [0, 1, 2, 3, 4, 5, 6, 7, 8, 9, 10, 11, 12, 13, 14, 15, 16, 17, 18, 19, 20, 21, 22, 23, 24, 25, 26], [0, 1, 2, 3, 4, 5, 6, 7, 8, 9, 10, 11, 12, 13, 14, 15, 16, 17, 18, 19, 20, 21, 22, 23, 24, 25, 26, 27], [0, 1, 2, 3, 4, 5, 6, 7, 8, 9, 10, 11, 12, 13, 14, 15, 16, 17, 18, 19, 20, 21, 22, 23, 24, 25, 26, 27, 28], [0, 1, 2, 3, 4, 5, 6, 7, 8, 9, 10, 11, 12, 13, 14, 15, 16, 17, 18, 19, 20, 21, 22, 23, 24, 25, 26, 27, 28, 29], [0, 1, 2, 3, 4, 5, 6, 7, 8, 9, 10, 11, 12, 13, 14, 15, 16, 17, 18, 19, 20, 21, 22, 23, 24, 25, 26, 27, 28, 29, 30], [0, 1, 2, 3, 4, 5, 6, 7, 8, 9, 10, 11, 12, 13, 14, 15, 16, 17, 18, 19, 20, 21, 22, 23, 24, 25, 26, 27, 28, 29, 30, 31], [0, 1, 2, 3, 4, 5, 6, 7, 8, 9, 10, 11, 12, 13, 14, 15, 16, 17, 18, 19, 20, 21, 22, 23, 24, 25, 26, 27, 28, 29, 30, 31, 32], [0, 1, 2, 3, 4, 5, 6, 7, 8, 9, 10, 11, 12, 13, 14, 15, 16, 17, 18, 19, 20, 21, 22, 23, 24, 25, 26, 27, 28, 29, 30, 31, 32, 33], [0, 1, 2, 3, 4, 5, 6, 7, 8, 9, 10, 11, 12, 13, 14, 15, 16, 17, 18, 19, 20, 21, 22, 23, 24, 25, 26, 27, 28, 29, 30, 31, 32, 33, 34], [0, 1, 2, 3, 4, 5, 6, 7, 8, 9, 10, 11, 12, 13, 14, 15, 16, 17, 18, 19, 20, 21, 22, 23, 24, 25, 26, 27, 28, 29, 30, 31, 32, 33, 34, 35], [0, 1, 2, 3, 4, 5, 6, 7, 8, 9, 10, 11, 12, 13, 14, 15, 16, 17, 18, 19, 20, 21, 22, 23, 24, 25, 26, 27, 28, 29, 30, 31, 32, 33, 34, 35, 36], [0, 1, 2, 3, 4, 5, 6, 7, 8, 9, 10, 11, 12, 13, 14, 15, 16, 17, 18, 19, 20, 21, 22, 23, 24, 25, 26, 27, 28, 29, 30, 31, 32, 33, 34, 35, 36, 37], [0, 1, 2, 3, 4, 5, 6, 7, 8, 9, 10, 11, 12, 13, 14, 15, 16, 17, 18, 19, 20, 21, 22, 23, 24, 25, 26, 27, 28, 29, 30, 31, 32, 33, 34, 35, 36, 37, 38], [0, 1, 2, 3, 4, 5, 6, 7, 8, 9, 10, 11, 12, 13, 14, 15, 16, 17, 18, 19, 20, 21, 22, 23, 24, 25, 26, 27, 28, 29, 30, 31, 32, 33, 34, 35, 36, 37, 38, 39]]
          [fun u _ => u = .bool false,
           fun u _ => u = .bool true,
           fun u _ => u = .bool true,
           fun u _ => u = .pointer (some ⟨k3, 0, none⟩),
           fun u _ => u = .int .i64 dst,
           fun u _ => u = .pointer (some ⟨kp, 1, none⟩),
           fun u _ => u = .int .i64 dst,
           fun u _ => u = .bool true,
           fun u _ => u = .bool true,
           fun u _ => u = .bool true,
           fun u _ => u = .pointer (some ⟨k3, 3, none⟩),
           fun u _ => u = .int .i64 sp,
           fun u _ => u = .pointer (some ⟨kp, 2, none⟩),
           fun u _ => u = .int .i64 sp,
           fun u _ => u = .bool true,
           fun u _ => u = .bool true,
           fun u _ => u = .bool true,
           fun u _ => u = .pointer (some ⟨k3, 5, none⟩),
           fun u _ => u = .int .u32 (KA : Int),
           fun u _ => u = .pointer (some ⟨kp, 4, none⟩),
           fun u _ => u = .int .u32 (seq : Int),
           fun u _ => u = .int .u32 (T : Int),
           fun u _ => u = .agg #[.int .i64 src, .int .i64 dst, .int .i64 sp, .int .i64 dp, .int .u32 (seq : Int), .int .u32 (ack : Int), .int .i64 fl, .int .i64 wn, .int .i64 pr, .int .i64 og, .slice A n c],
           fun u _ => u = .int .i64 (T : Int),
           fun u _ => u = .int .u32 (T : Int),
           fun u _ => u = .bool true,
           fun u _ => u = .bool true,
           fun u _ => u = .bool true,
           fun u _ => u = .agg #[.int .i64 src, .int .i64 dst, .int .i64 sp, .int .i64 dp, .int .u32 (seq : Int), .int .u32 (ack : Int), .int .i64 fl, .int .i64 wn, .int .i64 pr, .int .i64 og, .slice A n c],
           fun u _ => u = .int .i64 40,
           fun u _ => u = .bool true,
           fun u _ => u = .bool true,
           fun _ _ => True,
           fun _ _ => True,
           fun _ _ => True,
           fun u _ => u = .bool true,
           fun u _ => u = .bool true,
           fun u _ => u = .bool true,
           fun u _ => u = .bool true,
           fun u _ => u = .bool true,
           fun u _ => u = .bool true]
          (fun u => ⟨#[Value.agg #[Value.int IntKind.i64 src, Value.int IntKind.i64 dst, Value.int IntKind.i64 sp, Value.int IntKind.i64 dp, Value.int IntKind.u32 (seq : Int), Value.int IntKind.u32 (ack : Int), Value.int IntKind.i64 fl, Value.int IntKind.i64 wn, Value.int IntKind.i64 pr, Value.int IntKind.i64 og, Value.slice A n c], Value.pointer (some { block := kp, off := 0 }), u 40, Value.pointer (some { block := k3, off := 0 }), Value.bool true, Value.pointer (some { block := k5, off := 0 }), Value.bool false, Value.pointer (some { block := kp, off := 10 }), Value.slice A n c, Value.int IntKind.i64 (n : Int), Value.bool (decide (16384 < (n : Int))), undef, Value.tuple #[Value.agg #[Value.int IntKind.i64 dst, Value.int IntKind.i64 src, Value.int IntKind.i64 dp, Value.int IntKind.i64 sp, Value.int IntKind.u32 (s4 : Int), Value.int IntKind.u32 (KA : Int), Value.int IntKind.i64 10, Value.int IntKind.i64 0, Value.int IntKind.i64 0, Value.int IntKind.i64 0, Value.slice none 0 0], Value.bool true], Value.agg #[Value.int IntKind.i64 src, Value.int IntKind.i64 dst, Value.int IntKind.i64 sp, Value.int IntKind.i64 dp, Value.int IntKind.u32 (seq : Int), Value.int IntKind.u32 (ack : Int), Value.int IntKind.i64 fl, Value.int IntKind.i64 wn, Value.int IntKind.i64 pr, Value.int IntKind.i64 og, Value.slice A n c], Value.tuple #[Value.agg #[Value.int IntKind.i64 dst, Value.int IntKind.i64 src, Value.int IntKind.i64 dp, Value.int IntKind.i64 sp, Value.int IntKind.u32 (s4 : Int), Value.int IntKind.u32 (KA : Int), Value.int IntKind.i64 10, Value.int IntKind.i64 0, Value.int IntKind.i64 0, Value.int IntKind.i64 0, Value.slice none 0 0], Value.bool true], Value.agg #[Value.int IntKind.i64 dst, Value.int IntKind.i64 src, Value.int IntKind.i64 dp, Value.int IntKind.i64 sp, Value.int IntKind.u32 (s4 : Int), Value.int IntKind.u32 (KA : Int), Value.int IntKind.i64 10, Value.int IntKind.i64 0, Value.int IntKind.i64 0, Value.int IntKind.i64 0, Value.slice none 0 0], Value.bool true, Value.tuple #[Value.agg #[Value.int IntKind.i64 0, Value.int IntKind.i64 0, Value.int IntKind.i64 0, Value.int IntKind.i64 0, Value.int IntKind.u32 0, Value.int IntKind.u32 0, Value.int IntKind.i64 0, Value.int IntKind.i64 0, Value.int IntKind.i64 0, Value.int IntKind.i64 0, Value.slice none 0 0], Value.bool false], Value.agg #[Value.int IntKind.i64 dst, Value.int IntKind.i64 src, Value.int IntKind.i64 dp, Value.int IntKind.i64 sp, Value.int IntKind.u32 (s4 : Int), Value.int IntKind.u32 (KA : Int), Value.int IntKind.i64 10, Value.int IntKind.i64 0, Value.int IntKind.i64 0, Value.int IntKind.i64 0, Value.slice none 0 0], Value.tuple #[Value.agg #[Value.int IntKind.i64 0, Value.int IntKind.i64 0, Value.int IntKind.i64 0, Value.int IntKind.i64 0, Value.int IntKind.u32 0, Value.int IntKind.u32 0, Value.int IntKind.i64 0, Value.int IntKind.i64 0, Value.int IntKind.i64 0, Value.int IntKind.i64 0, Value.slice none 0 0], Value.bool false], Value.agg #[Value.int IntKind.i64 0, Value.int IntKind.i64 0, Value.int IntKind.i64 0, Value.int IntKind.i64 0, Value.int IntKind.u32 0, Value.int IntKind.u32 0, Value.int IntKind.i64 0, Value.int IntKind.i64 0, Value.int IntKind.i64 0, Value.int IntKind.i64 0, Value.slice none 0 0], Value.bool false, Value.bool true, Value.bool false, undef, undef, undef, undef, undef, undef, undef, undef, undef, undef, undef, undef, u 0, u 1, u 2, u 3, u 4, u 5, u 6, u 7, u 8, u 9, u 10, u 11, u 12, u 13, u 14, u 15, u 16, u 17, u 18, u 19, u 20, u 21, u 22, u 23, u 24, u 25, u 26, u 27, u 28, u 29, u 30, u 31, u 32, u 33, u 34, u 35, u 36, u 37, u 38, u 39], []⟩)
          (fun j => [undef, undef, undef, undef, undef, undef, undef, undef, undef, undef, undef, undef, undef, undef, undef, undef, undef, undef, undef, undef, undef, undef, undef, undef, undef, undef, undef, undef, undef, undef, undef, undef, undef, undef, undef, undef, undef, undef, undef, undef, Value.bool false].getD j undef) (by kernel_rfl) (by kernel_rfl) (by kernel_rfl) rfl ⟨Mono.eq _, Mono.eq _, Mono.eq _, Mono.eq _, Mono.eq _, Mono.eq _, Mono.eq _, Mono.eq _, Mono.eq _, Mono.eq _, Mono.eq _, Mono.eq _, Mono.eq _, Mono.eq _, Mono.eq _, Mono.eq _, Mono.eq _, Mono.eq _, Mono.eq _, Mono.eq _, Mono.eq _, Mono.eq _, Mono.eq _, Mono.eq _, Mono.eq _, Mono.eq _, Mono.eq _, Mono.eq _, Mono.eq _, Mono.eq _, Mono.eq _, Mono.eq _, fun _ _ _ _ h => h, fun _ _ _ _ h => h, fun _ _ _ _ h => h, Mono.eq _, Mono.eq _, Mono.eq _, Mono.eq _, Mono.eq _, Mono.eq _, trivial⟩ ?_ ?_
        · refine ⟨?_, ?_, ?_, ?_, ?_, ?_, ?_, ?_, ?_, ?_, ?_, ?_, ?_, ?_, ?_, ?_, ?_, ?_, ?_, ?_, ?_, ?_, ?_, ?_, ?_, ?_, ?_, ?_, ?_, ?_, ?_, ?_, ?_, ?_, ?_, ?_, ?_, ?_, ?_, ?_, ?_, trivial⟩
          · intro u w2 hb hF J K hJ hK
            have HB2 := Lib.hid hb
            have HF := Lib.hid hF
            clear hb hF
            go_wp2
            exact hJ _ _ _ (Below.refl _ _) (rfl) (by simp [setU] <;> omega)
          · intro u w2 hb hF J K hJ hK
            have HB2 := Lib.hid hb
            have HF := Lib.hid hF
            clear hb hF
            have f0 : u 0 = .bool false := HF.out 0 (by decide)
            go_wp2
            exact hJ _ _ _ (Below.refl _ _) (rfl) (by simp [setU, f0] <;> omega)
          · intro u w2 hb hF J K hJ hK
            have HB2 := Lib.hid hb
            have HF := Lib.hid hF
            clear hb hF
            have f1 : u 1 = .bool true := HF.out 1 (by decide)
            go_wp2
            exact hJ _ _ _ (Below.refl _ _) (rfl) (by simp [setU, f1] <;> omega)
          · intro u w2 hb hF J K hJ hK
            have HB2 := Lib.hid hb
            have HF := Lib.hid hF
            clear hb hF
            have f2 : u 2 = .bool true := HF.out 2 (by decide)
            go_wp2
            exact hJ _ _ _ (Below.refl _ _) (rfl) (by simp [setU, f2] <;> omega)
          · intro u w2 hb hF J K hJ hK
            have HB2 := Lib.hid hb
            have HF := Lib.hid hF
            clear hb hF
            have f2 : u 2 = .bool true := HF.out 2 (by decide)
            have f3 : u 3 = .pointer (some ⟨k3, 0, none⟩) := HF.out 3 (by decide)
            have q0 : w2.cell? ⟨k3, 0, none⟩ = some (.int .i64 dst) := (HA7.out.ext HB2.out).cell rfl
            go_wp2
            exact hJ _ _ _ (Below.refl _ _) (rfl) (by simp [setU, f2, f3] <;> omega)
          · intro u w2 hb hF J K hJ hK
            have HB2 := Lib.hid hb
            have HF := Lib.hid hF
            clear hb hF
            have f2 : u 2 = .bool true := HF.out 2 (by decide)
            go_wp2
            exact hJ _ _ _ (Below.refl _ _) (rfl) (by simp [setU, f2] <;> omega)
          · intro u w2 hb hF J K hJ hK
            have HB2 := Lib.hid hb
            have HF := Lib.hid hF
            clear hb hF
            have f2 : u 2 = .bool true := HF.out 2 (by decide)
            have f5 : u 5 = .pointer (some ⟨kp, 1, none⟩) := HF.out 5 (by decide)
            have q1 : w2.cell? ⟨kp, 1, none⟩ = some (.int .i64 dst) := (HP7.out.ext HB2.out).cell rfl
            go_wp2
            exact hJ _ _ _ (Below.refl _ _) (rfl) (by simp [setU, f2, f5] <;> omega)
          · intro u w2 hb hF J K hJ hK
            have HB2 := Lib.hid hb
            have HF := Lib.hid hF
            clear hb hF
            have f2 : u 2 = .bool true := HF.out 2 (by decide)
            have f4 : u 4 = .int .i64 dst := HF.out 4 (by decide)
            have f6 : u 6 = .int .i64 dst := HF.out 6 (by decide)
            go_wp2
            exact hJ _ _ _ (Below.refl _ _) (rfl) (by simp [setU, f2, f4, f6] <;> omega)
          · intro u w2 hb hF J K hJ hK
            have HB2 := Lib.hid hb
            have HF := Lib.hid hF
            clear hb hF
            have f2 : u 2 = .bool true := HF.out 2 (by decide)
            have f7 : u 7 = .bool true := HF.out 7 (by decide)
            go_wp2
            exact hJ _ _ _ (Below.refl _ _) (rfl) (by simp [setU, f2, f7] <;> omega)
          · intro u w2 hb hF J K hJ hK
            have HB2 := Lib.hid hb
            have HF := Lib.hid hF
            clear hb hF
            have f8 : u 8 = .bool true := HF.out 8 (by decide)
            go_wp2
            exact hJ _ _ _ (Below.refl _ _) (rfl) (by simp [setU, f8] <;> omega)
          · intro u w2 hb hF J K hJ hK
            have HB2 := Lib.hid hb
            have HF := Lib.hid hF
            clear hb hF
            have f9 : u 9 = .bool true := HF.out 9 (by decide)
            go_wp2
            exact hJ _ _ _ (Below.refl _ _) (rfl) (by simp [setU, f9] <;> omega)
          · intro u w2 hb hF J K hJ hK
            have HB2 := Lib.hid hb
            have HF := Lib.hid hF
            clear hb hF
            have f9 : u 9 = .bool true := HF.out 9 (by decide)
            have f10 : u 10 = .pointer (some ⟨k3, 3, none⟩) := HF.out 10 (by decide)
            have q3 : w2.cell? ⟨k3, 3, none⟩ = some (.int .i64 sp) := (HA7.out.ext HB2.out).cell rfl
            go_wp2
            exact hJ _ _ _ (Below.refl _ _) (rfl) (by simp [setU, f9, f10] <;> omega)
          · intro u w2 hb hF J K hJ hK
            have HB2 := Lib.hid hb
            have HF := Lib.hid hF
            clear hb hF
            have f9 : u 9 = .bool true := HF.out 9 (by decide)
            go_wp2
            exact hJ _ _ _ (Below.refl _ _) (rfl) (by simp [setU, f9] <;> omega)
          · intro u w2 hb hF J K hJ hK
            have HB2 := Lib.hid hb
            have HF := Lib.hid hF
            clear hb hF
            have f9 : u 9 = .bool true := HF.out 9 (by decide)
            have f12 : u 12 = .pointer (some ⟨kp, 2, none⟩) := HF.out 12 (by decide)
            have q2 : w2.cell? ⟨kp, 2, none⟩ = some (.int .i64 sp) := (HP7.out.ext HB2.out).cell rfl
            go_wp2
            exact hJ _ _ _ (Below.refl _ _) (rfl) (by simp [setU, f9, f12] <;> omega)
          · intro u w2 hb hF J K hJ hK
            have HB2 := Lib.hid hb
            have HF := Lib.hid hF
            clear hb hF
            have f9 : u 9 = .bool true := HF.out 9 (by decide)
            have f11 : u 11 = .int .i64 sp := HF.out 11 (by decide)
            have f13 : u 13 = .int .i64 sp := HF.out 13 (by decide)
            go_wp2
            exact hJ _ _ _ (Below.refl _ _) (rfl) (by simp [setU, f9, f11, f13] <;> omega)
          · intro u w2 hb hF J K hJ hK
            have HB2 := Lib.hid hb
            have HF := Lib.hid hF
            clear hb hF
            have f9 : u 9 = .bool true := HF.out 9 (by decide)
            have f14 : u 14 = .bool true := HF.out 14 (by decide)
            go_wp2
            exact hJ _ _ _ (Below.refl _ _) (rfl) (by simp [setU, f9, f14] <;> omega)
          · intro u w2 hb hF J K hJ hK
            have HB2 := Lib.hid hb
            have HF := Lib.hid hF
            clear hb hF
            have f15 : u 15 = .bool true := HF.out 15 (by decide)
            go_wp2
            exact hJ _ _ _ (Below.refl _ _) (rfl) (by simp [setU, f15] <;> omega)
          · intro u w2 hb hF J K hJ hK
            have HB2 := Lib.hid hb
            have HF := Lib.hid hF
            clear hb hF
            have f16 : u 16 = .bool true := HF.out 16 (by decide)
            go_wp2
            exact hJ _ _ _ (Below.refl _ _) (rfl) (by simp [setU, f16] <;> omega)
          · intro u w2 hb hF J K hJ hK
            have HB2 := Lib.hid hb
            have HF := Lib.hid hF
            clear hb hF
            have f16 : u 16 = .bool true := HF.out 16 (by decide)
            have f17 : u 17 = .pointer (some ⟨k3, 5, none⟩) := HF.out 17 (by decide)
            have q5 : w2.cell? ⟨k3, 5, none⟩ = some (.int .u32 (KA : Int)) := (HA7.out.ext HB2.out).cell rfl
            go_wp2
            exact hJ _ _ _ (Below.refl _ _) (rfl) (by simp [setU, f16, f17] <;> omega)
          · intro u w2 hb hF J K hJ hK
            have HB2 := Lib.hid hb
            have HF := Lib.hid hF
            clear hb hF
            have f16 : u 16 = .bool true := HF.out 16 (by decide)
            go_wp2
            exact hJ _ _ _ (Below.refl _ _) (rfl) (by simp [setU, f16] <;> omega)
          · intro u w2 hb hF J K hJ hK
            have HB2 := Lib.hid hb
            have HF := Lib.hid hF
            clear hb hF
            have f16 : u 16 = .bool true := HF.out 16 (by decide)
            have f19 : u 19 = .pointer (some ⟨kp, 4, none⟩) := HF.out 19 (by decide)
            have q4 : w2.cell? ⟨kp, 4, none⟩ = some (.int .u32 (seq : Int)) := (HP7.out.ext HB2.out).cell rfl
            go_wp2
            exact hJ _ _ _ (Below.refl _ _) (rfl) (by simp [setU, f16, f19] <;> omega)
          · intro u w2 hb hF J K hJ hK
            have HB2 := Lib.hid hb
            have HF := Lib.hid hF
            clear hb hF
            have f16 : u 16 = .bool true := HF.out 16 (by decide)
            have f18 : u 18 = .int .u32 (KA : Int) := HF.out 18 (by decide)
            have f20 : u 20 = .int .u32 (seq : Int) := HF.out 20 (by decide)
            have e57 := hKT.out
            go_wp2
            exact hJ _ _ _ (Below.refl _ _) (rfl) (by simp [setU, f16, f18, f20] <;> omega)
          · intro u w2 hb hF J K hJ hK
            have HB2 := Lib.hid hb
            have HF := Lib.hid hF
            clear hb hF
            have f16 : u 16 = .bool true := HF.out 16 (by decide)
            have q0 : w2.cell? ⟨kp, 0, none⟩ = some (.int .i64 src) := (HP7.out.ext HB2.out).cell rfl
            have q1 : w2.cell? ⟨kp, 1, none⟩ = some (.int .i64 dst) := (HP7.out.ext HB2.out).cell rfl
            have q2 : w2.cell? ⟨kp, 2, none⟩ = some (.int .i64 sp) := (HP7.out.ext HB2.out).cell rfl
            have q3 : w2.cell? ⟨kp, 3, none⟩ = some (.int .i64 dp) := (HP7.out.ext HB2.out).cell rfl
            have q4 : w2.cell? ⟨kp, 4, none⟩ = some (.int .u32 (seq : Int)) := (HP7.out.ext HB2.out).cell rfl
            have q5 : w2.cell? ⟨kp, 5, none⟩ = some (.int .u32 (ack : Int)) := (HP7.out.ext HB2.out).cell rfl
            have q6 : w2.cell? ⟨kp, 6, none⟩ = some (.int .i64 fl) := (HP7.out.ext HB2.out).cell rfl
            have q7 : w2.cell? ⟨kp, 7, none⟩ = some (.int .i64 wn) := (HP7.out.ext HB2.out).cell rfl
            have q8 : w2.cell? ⟨kp, 8, none⟩ = some (.int .i64 pr) := (HP7.out.ext HB2.out).cell rfl
            have q9 : w2.cell? ⟨kp, 9, none⟩ = some (.int .i64 og) := (HP7.out.ext HB2.out).cell rfl
            have q10 : w2.cell? ⟨kp, 10, none⟩ = some (.slice A n c) := (HP7.out.ext HB2.out).cell rfl
            go_wp2
            exact hJ _ _ _ (Below.refl _ _) (rfl) (by simp [setU, f16] <;> omega)
          · intro u w2 hb hF J K hJ hK
            have HB2 := Lib.hid hb
            have HF := Lib.hid hF
            clear hb hF
            have f16 : u 16 = .bool true := HF.out 16 (by decide)
            have f22 : u 22 = .agg #[.int .i64 src, .int .i64 dst, .int .i64 sp, .int .i64 dp, .int .u32 (seq : Int), .int .u32 (ack : Int), .int .i64 fl, .int .i64 wn, .int .i64 pr, .int .i64 og, .slice A n c] := HF.out 22 (by decide)
            go_wp2_with fail
            refine (HTK.out w2).mono ?_
            rintro e w4 ⟨rfl, hb4⟩
            have HB4 := Lib.hid hb4
            clear hb4
            go_wp2
            exact hJ _ _ _ (HB4.out) (rfl) (by simp [setU, f16, f22] <;> omega)
          · intro u w2 hb hF J K hJ hK
            have HB2 := Lib.hid hb
            have HF := Lib.hid hF
            clear hb hF
            have f16 : u 16 = .bool true := HF.out 16 (by decide)
            have f23 : u 23 = .int .i64 (T : Int) := HF.out 23 (by decide)
            have e60 : IntKind.u32.wrap (T : Int) = (T : Int) := IntWalk.u32_in _ (by have := HT2.out; have := HN1.out; omega)
            go_wp2
            exact hJ _ _ _ (Below.refl _ _) (rfl) (by simp [setU, f16, f23] <;> omega)
          · intro u w2 hb hF J K hJ hK
            have HB2 := Lib.hid hb
            have HF := Lib.hid hF
            clear hb hF
            have f16 : u 16 = .bool true := HF.out 16 (by decide)
            have f21 : u 21 = .int .u32 (T : Int) := HF.out 21 (by decide)
            have f24 : u 24 = .int .u32 (T : Int) := HF.out 24 (by decide)
            go_wp2
            exact hJ _ _ _ (Below.refl _ _) (rfl) (by simp [setU, f16, f21, f24] <;> omega)
          · intro u w2 hb hF J K hJ hK
            have HB2 := Lib.hid hb
            have HF := Lib.hid hF
            clear hb hF
            have f16 : u 16 = .bool true := HF.out 16 (by decide)
            have f25 : u 25 = .bool true := HF.out 25 (by decide)
            go_wp2
            exact hJ _ _ _ (Below.refl _ _) (rfl) (by simp [setU, f16, f25] <;> omega)
          · intro u w2 hb hF J K hJ hK
            have HB2 := Lib.hid hb
            have HF := Lib.hid hF
            clear hb hF
            have f26 : u 26 = .bool true := HF.out 26 (by decide)
            go_wp2
            exact hJ _ _ _ (Below.refl _ _) (rfl) (by simp [setU, f26] <;> omega)
          · intro u w2 hb hF J K hJ hK
            have HB2 := Lib.hid hb
            have HF := Lib.hid hF
            clear hb hF
            have f27 : u 27 = .bool true := HF.out 27 (by decide)
            have q0 : w2.cell? ⟨kp, 0, none⟩ = some (.int .i64 src) := (HP7.out.ext HB2.out).cell rfl
            have q1 : w2.cell? ⟨kp, 1, none⟩ = some (.int .i64 dst) := (HP7.out.ext HB2.out).cell rfl
            have q2 : w2.cell? ⟨kp, 2, none⟩ = some (.int .i64 sp) := (HP7.out.ext HB2.out).cell rfl
            have q3 : w2.cell? ⟨kp, 3, none⟩ = some (.int .i64 dp) := (HP7.out.ext HB2.out).cell rfl
            have q4 : w2.cell? ⟨kp, 4, none⟩ = some (.int .u32 (seq : Int)) := (HP7.out.ext HB2.out).cell rfl
            have q5 : w2.cell? ⟨kp, 5, none⟩ = some (.int .u32 (ack : Int)) := (HP7.out.ext HB2.out).cell rfl
            have q6 : w2.cell? ⟨kp, 6, none⟩ = some (.int .i64 fl) := (HP7.out.ext HB2.out).cell rfl
            have q7 : w2.cell? ⟨kp, 7, none⟩ = some (.int .i64 wn) := (HP7.out.ext HB2.out).cell rfl
            have q8 : w2.cell? ⟨kp, 8, none⟩ = some (.int .i64 pr) := (HP7.out.ext HB2.out).cell rfl
            have q9 : w2.cell? ⟨kp, 9, none⟩ = some (.int .i64 og) := (HP7.out.ext HB2.out).cell rfl
            have q10 : w2.cell? ⟨kp, 10, none⟩ = some (.slice A n c) := (HP7.out.ext HB2.out).cell rfl
            go_wp2
            exact hJ _ _ _ (Below.refl _ _) (rfl) (by simp [setU, f27] <;> omega)
          · intro u w2 hb hF J K hJ hK
            have HB2 := Lib.hid hb
            have HF := Lib.hid hF
            clear hb hF
            have f27 : u 27 = .bool true := HF.out 27 (by decide)
            have f28 : u 28 = .agg #[.int .i64 src, .int .i64 dst, .int .i64 sp, .int .i64 dp, .int .u32 (seq : Int), .int .u32 (ack : Int), .int .i64 fl, .int .i64 wn, .int .i64 pr, .int .i64 og, .slice A n c] := HF.out 28 (by decide)
            go_wp2_with fail
            refine (HC1.out w2).mono ?_
            rintro e w4 ⟨rfl, hb4⟩
            have HB4 := Lib.hid hb4
            clear hb4
            go_wp2
            exact hJ _ _ _ (HB4.out) (rfl) (by simp [setU, f27, f28] <;> omega)
          · intro u w2 hb hF J K hJ hK
            have HB2 := Lib.hid hb
            have HF := Lib.hid hF
            clear hb hF
            have f27 : u 27 = .bool true := HF.out 27 (by decide)
            have f29 : u 29 = .int .i64 40 := HF.out 29 (by decide)
            go_wp2
            exact hJ _ _ _ (Below.refl _ _) (rfl) (by simp [setU, f27, f29] <;> omega)
          · intro u w2 hb hF J K hJ hK
            have HB2 := Lib.hid hb
            have HF := Lib.hid hF
            clear hb hF
            have f27 : u 27 = .bool true := HF.out 27 (by decide)
            have f30 : u 30 = .bool true := HF.out 30 (by decide)
            go_wp2
            exact hJ _ _ _ (Below.refl _ _) (rfl) (by simp [setU, f27, f30] <;> omega)
          · intro u w2 hb hF J K hJ hK
            have HB2 := Lib.hid hb
            have HF := Lib.hid hF
            clear hb hF
            have f31 : u 31 = .bool true := HF.out 31 (by decide)
            go_wp2
            exact hJ undef _ _ (Below.refl _ _) (trivial) (by simp [setU, f31] <;> omega)
          · intro u w2 hb hF J K hJ hK
            have HB2 := Lib.hid hb
            have HF := Lib.hid hF
            clear hb hF
            have f31 : u 31 = .bool true := HF.out 31 (by decide)
            go_wp2
            exact hJ undef _ _ (Below.refl _ _) (trivial) (by simp [setU, f31] <;> omega)
          · intro u w2 hb hF J K hJ hK
            have HB2 := Lib.hid hb
            have HF := Lib.hid hF
            clear hb hF
            have f31 : u 31 = .bool true := HF.out 31 (by decide)
            go_wp2
            exact hJ undef _ _ (Below.refl _ _) (trivial) (by simp [setU, f31] <;> omega)
          · intro u w2 hb hF J K hJ hK
            have HB2 := Lib.hid hb
            have HF := Lib.hid hF
            clear hb hF
            have f27 : u 27 = .bool true := HF.out 27 (by decide)
            have f31 : u 31 = .bool true := HF.out 31 (by decide)
            go_wp2
            exact hJ _ _ _ (Below.refl _ _) (rfl) (by simp [setU, f27, f31] <;> omega)
          · intro u w2 hb hF J K hJ hK
            have HB2 := Lib.hid hb
            have HF := Lib.hid hF
            clear hb hF
            have f27 : u 27 = .bool true := HF.out 27 (by decide)
            have f35 : u 35 = .bool true := HF.out 35 (by decide)
            go_wp2
            exact hJ _ _ _ (Below.refl _ _) (rfl) (by simp [setU, f27, f35] <;> omega)
          · intro u w2 hb hF J K hJ hK
            have HB2 := Lib.hid hb
            have HF := Lib.hid hF
            clear hb hF
            have f36 : u 36 = .bool true := HF.out 36 (by decide)
            go_wp2
            exact hJ _ _ _ (Below.refl _ _) (rfl) (by simp [setU, f36] <;> omega)
          · intro u w2 hb hF J K hJ hK
            have HB2 := Lib.hid hb
            have HF := Lib.hid hF
            clear hb hF
            have f37 : u 37 = .bool true := HF.out 37 (by decide)
            go_wp2_with fail
            refine (awake_calls w2).mono ?_
            rintro e w4 ⟨rfl, hb4⟩
            have HB4 := Lib.hid hb4
            clear hb4
            go_wp2
            exact hJ _ _ _ (HB4.out) (rfl) (by simp [setU, f37] <;> omega)
          · intro u w2 hb hF J K hJ hK
            have HB2 := Lib.hid hb
            have HF := Lib.hid hF
            clear hb hF
            have f37 : u 37 = .bool true := HF.out 37 (by decide)
            have f38 : u 38 = .bool true := HF.out 38 (by decide)
            go_wp2
            exact hJ _ _ _ (Below.refl _ _) (rfl) (by simp [setU, f37, f38] <;> omega)
          · intro u w2 hb hF J K hJ hK
            have HB2 := Lib.hid hb
            have HF := Lib.hid hF
            clear hb hF
            have f39 : u 39 = .bool true := HF.out 39 (by decide)
            go_wp2
            exact hJ _ _ _ (Below.refl _ _) (rfl) (by simp [setU, f39] <;> omega)
        · intro u w2 hb hF
          have HB2 := Lib.hid hb
          have f40 : u 40 = .bool true := hF 40 (by decide)
          clear hb hF
          have HB8 := Lib.hid (HB7.out.trans (HB2.out.mono HB7.out.size))
          clear HB2
          dsimp only
          rw [f40]
          go_wp2
          go_ret
          exact ⟨rfl, HB8.out⟩
    · have hR : p.refuse n = (Pk.zero, false) := by unfold Pk.refuse; rw [if_neg (by rw [h8]; decide)]
      rw [hR] at HREF
      have HSM : Hid (∀ W : World, Calls Try.prog 17 #[.agg (Pk.zero.cs none 0 0).toArray, .agg (Pk.zero.cs none 0 0).toArray] W fun e w' => e = .returned (.bool true) ∧ Below W.heap.size W w') := Lib.hid fun W => by
        have := same_n Pk.zero Pk.zero none none 0 0 0 0 rfl rfl W (RB.nil _ _) (RB.nil _ _)
        rw [sameP_self] at this
        exact this
      have HREF2 : Hid (∀ W : World, Calls Try.prog 18 #[.agg (Pk.zero.cs none 0 0).toArray] W fun e w' => ∃ R : Pk × Bool, e = .returned (.tuple #[.agg (R.1.cs none 0 0).toArray, .bool R.2]) ∧ Below W.heap.size W w') := Lib.hid fun W => (refuse_n Pk.zero none 0 0 (by decide) (by decide) W).mono fun e w' k => ⟨_, k⟩
      rw [zeroCs_cs] at HREF HSM HREF2
      clear hR HTK HCKP HIN
      obtain ⟨src, dst, sp, dp, seq, ack, fl, wn, pr, og, data⟩ := p
      dsimp only at h8
      simp only [Pk.cs, zeroCs] at HREF HSM HREF2 ⊢
      go_enter Try.func6, Try.ntmps6
      go_wp2_with fail
      refine (HREF.out _).mono ?_
      rintro e w3 ⟨rfl, hb3⟩
      have hz3 : w.heap.size + 1 ≤ w3.heap.size := by have := hb3.size; simp at this; omega
      have HP3 := Lib.hid ((hb3.block w.heap.size (by simp)).trans (heap_end rfl _ _))
      have HB3 := Lib.hid (ext_trans (ext_alloc _ _) hb3)
      clear hb3
      obtain ⟨kp, hkp⟩ : ∃ k, w.heap.size = k := ⟨_, rfl⟩
      obtain ⟨k3, hk3⟩ : ∃ k, w3.heap.size = k := ⟨_, rfl⟩
      have HKP := Lib.hid hkp
      have HK3 := Lib.hid hk3
      go_upto_region 4 with fail
      have hx := ext_alloc w3 (.cells #[.int .i64 0, .int .i64 0, .int .i64 0, .int .i64 0, .int .u32 0, .int .u32 0, .int .i64 0, .int .i64 0, .int .i64 0, .int .i64 0, .slice none 0 0] 25)
      have HA4 : Hid (BK (w3.alloc (.cells #[.int .i64 0, .int .i64 0, .int .i64 0, .int .i64 0, .int .u32 0, .int .u32 0, .int .i64 0, .int .i64 0, .int .i64 0, .int .i64 0, .slice none 0 0] 25)) k3 25 [.int .i64 0, .int .i64 0, .int .i64 0, .int .i64 0, .int .u32 0, .int .u32 0, .int .i64 0, .int .i64 0, .int .i64 0, .int .i64 0, .slice none 0 0]) := Lib.hid (heap_end HK3.out _ _)
      have HP4 : Hid (BK (w3.alloc (.cells #[.int .i64 0, .int .i64 0, .int .i64 0, .int .i64 0, .int .u32 0, .int .u32 0, .int .i64 0, .int .i64 0, .int .i64 0, .int .i64 0, .slice none 0 0] 25)) kp 25 [.int .i64 src, .int .i64 dst, .int .i64 sp, .int .i64 dp, .int .u32 (seq : Int), .int .u32 (ack : Int), .int .i64 fl, .int .i64 wn, .int .i64 pr, .int .i64 og, .slice A n c]) := Lib.hid (heap_old (by rw [← HKP.out]; exact HP3.out))
      have HB4 := Lib.hid (ext_trans HB3.out hx)
      clear hx hkp hk3 HP3 HB3 hz3
      generalize w3.alloc (.cells #[.int .i64 0, .int .i64 0, .int .i64 0, .int .i64 0, .int .u32 0, .int .u32 0, .int .i64 0, .int .i64 0, .int .i64 0, .int .i64 0, .slice none 0 0] 25) = w4 at *
      have q0 : w4.cell? ⟨k3, 0, none⟩ = some (.int .i64 0) := HA4.out.cell rfl
      have q1 : w4.cell? ⟨k3, 1, none⟩ = some (.int .i64 0) := HA4.out.cell rfl
      have q2 : w4.cell? ⟨k3, 2, none⟩ = some (.int .i64 0) := HA4.out.cell rfl
      have q3 : w4.cell? ⟨k3, 3, none⟩ = some (.int .i64 0) := HA4.out.cell rfl
      have q4 : w4.cell? ⟨k3, 4, none⟩ = some (.int .u32 0) := HA4.out.cell rfl
      have q5 : w4.cell? ⟨k3, 5, none⟩ = some (.int .u32 0) := HA4.out.cell rfl
      have q6 : w4.cell? ⟨k3, 6, none⟩ = some (.int .i64 0) := HA4.out.cell rfl
      have q7 : w4.cell? ⟨k3, 7, none⟩ = some (.int .i64 0) := HA4.out.cell rfl
      have q8 : w4.cell? ⟨k3, 8, none⟩ = some (.int .i64 0) := HA4.out.cell rfl
      have q9 : w4.cell? ⟨k3, 9, none⟩ = some (.int .i64 0) := HA4.out.cell rfl
      have q10 : w4.cell? ⟨k3, 10, none⟩ = some (.slice none 0 0) := HA4.out.cell rfl
      go_wp2_with fail
      refine (HREF2.out _).mono ?_
      rintro e w5 ⟨R2, rfl, hb5⟩
      obtain ⟨⟨r0, r1, r2, r3, r4, r5, r6, r7, r8, r9, rd⟩, rb⟩ := R2
      dsimp only
      have HA5 := Lib.hid (HA4.out.ext hb5)
      have HP5 := Lib.hid (HP4.out.ext hb5)
      have HB5 := Lib.hid (ext_trans HB4.out hb5)
      clear q0 q1 q2 q3 q4 q5 q6 q7 q8 q9 q10 HA4 HP4 HB4 hb5 HREF HREF2
      go_upto_region 6 with fail
      have HA7 := Lib.hid (HA5.out.ext (ext_alloc w5 (.cells #[.int .i64 r0, .int .i64 r1, .int .i64 r2, .int .i64 r3, .int .u32 (r4 : Int), .int .u32 (r5 : Int), .int .i64 r6, .int .i64 r7, .int .i64 r8, .int .i64 r9, .slice none 0 0] 25)))
      have HP7 := Lib.hid (HP5.out.ext (ext_alloc w5 (.cells #[.int .i64 r0, .int .i64 r1, .int .i64 r2, .int .i64 r3, .int .u32 (r4 : Int), .int .u32 (r5 : Int), .int .i64 r6, .int .i64 r7, .int .i64 r8, .int .i64 r9, .slice none 0 0] 25)))
      have HB7 := Lib.hid (ext_trans HB5.out (ext_alloc w5 (.cells #[.int .i64 r0, .int .i64 r1, .int .i64 r2, .int .i64 r3, .int .u32 (r4 : Int), .int .u32 (r5 : Int), .int .i64 r6, .int .i64 r7, .int .i64 r8, .int .i64 r9, .slice none 0 0] 25)))
      clear HA5 HP5 HB5
      generalize w5.alloc (.cells #[.int .i64 r0, .int .i64 r1, .int .i64 r2, .int .i64 r3, .int .u32 (r4 : Int), .int .u32 (r5 : Int), .int .i64 r6, .int .i64 r7, .int .i64 r8, .int .i64 r9, .slice none 0 0] 25) = w7 at *
      have p6 : w7.cell? ⟨kp, 6, none⟩ = some (.int .i64 fl) := HP7.out.cell rfl
      have q0 : w7.cell? ⟨k3, 0, none⟩ = some (.int .i64 0) := HA7.out.cell rfl
      have q1 : w7.cell? ⟨k3, 1, none⟩ = some (.int .i64 0) := HA7.out.cell rfl
      have q2 : w7.cell? ⟨k3, 2, none⟩ = some (.int .i64 0) := HA7.out.cell rfl
      have q3 : w7.cell? ⟨k3, 3, none⟩ = some (.int .i64 0) := HA7.out.cell rfl
      have q4 : w7.cell? ⟨k3, 4, none⟩ = some (.int .u32 0) := HA7.out.cell rfl
      have q5 : w7.cell? ⟨k3, 5, none⟩ = some (.int .u32 0) := HA7.out.cell rfl
      have q6 : w7.cell? ⟨k3, 6, none⟩ = some (.int .i64 0) := HA7.out.cell rfl
      have q7 : w7.cell? ⟨k3, 7, none⟩ = some (.int .i64 0) := HA7.out.cell rfl
      have q8 : w7.cell? ⟨k3, 8, none⟩ = some (.int .i64 0) := HA7.out.cell rfl
      have q9 : w7.cell? ⟨k3, 9, none⟩ = some (.int .i64 0) := HA7.out.cell rfl
      have q10 : w7.cell? ⟨k3, 10, none⟩ = some (.slice none 0 0) := HA7.out.cell rfl
      go_wp2_with fail
      refine (HSM.out _).mono ?_
      rintro e w8 ⟨rfl, hb8⟩
      have HB8 := Lib.hid (HB7.out.trans (hb8.mono HB7.out.size))
      clear hb8
      go_wp2_with fail
      refine (awake_calls _).mono ?_
      rintro e w9 ⟨rfl, hb9⟩
      have HB9 := Lib.hid (ext_trans HB8.out hb9)
      clear hb9
      go_wp2
      go_ret
      exact ⟨rfl, HB9.out⟩
end Go.Proofs.Ytobkelpeenckeaa
