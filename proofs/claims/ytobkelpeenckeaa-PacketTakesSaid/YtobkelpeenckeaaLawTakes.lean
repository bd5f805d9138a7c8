/- The walk of the law PacketTakes (printed by gentk.py). -/
import Derived.Test.YtobkelpeenckeaaPkI
import Derived.Test.YtobkelpeenckeaaRowPk
namespace Go.Proofs.Ytobkelpeenckeaa
open Go.RowKit
set_option linter.unusedVariables false
set_option linter.unusedSimpArgs false

theorem refuse_data (p : Pk) (n : Nat) : (p.refuse n).1.data = [] := by unfold Pk.refuse; split <;> rfl
set_option maxRecDepth 100000 in
set_option maxHeartbeats 2000000 in
theorem takes_walk (w : World) (p : Pk) (A : Option Addr) (c : Nat) (h : RB w A p.data) (hc : p.data.length ≤ c) (hcm : c ≤ maxLen) (hin : PkIn p) :
    Calls Try.prog 5 #[.agg (p.cs A p.data.length c).toArray] w fun e w' => e = .returned (.bool true) ∧ Below w.heap.size w w' := by
  by_cases hs : 16384 < p.data.length
  · clear h hin
    obtain ⟨src, dst, sp, dp, seq, ack, fl, wn, pr, og, data⟩ := p
    dsimp only at hs
    obtain ⟨n, hn⟩ : ∃ n, data.length = n := ⟨_, rfl⟩
    simp only [Pk.cs]
    rw [hn] at hs ⊢
    clear hn
    go_enter Try.func5, Try.ntmps5
    go_wp2_with fail
    refine (awake_calls _).mono ?_
    rintro e w2 ⟨rfl, hb⟩
    have HB := Lib.hid (ext_trans (ext_alloc _ _) hb)
    clear hb
    go_wp2
    go_ret
    exact ⟨rfl, HB.out⟩
  · obtain ⟨n, hn⟩ : ∃ n, p.data.length = n := ⟨_, rfl⟩
    rw [hn] at hs ⊢
    have hn1 : n ≤ 100000 := by omega
    obtain ⟨R, hR⟩ : ∃ R, p.refuse n = R := ⟨_, rfl⟩
    have hRd : R.1.data = [] := by rw [← hR]; exact refuse_data p n
    have HREF : Hid (∀ W : World, Calls Try.prog 18 #[.agg (p.cs A n c).toArray] W fun e w' => e = .returned (.tuple #[.agg (R.1.cs none 0 0).toArray, .bool R.2]) ∧ Below W.heap.size W w') := Lib.hid (by rw [← hR]; exact refuse_n p A n c hn1 hin.1)
    have HRREF : Hid (∀ W : World, Calls Try.prog 19 #[.agg (p.cs A n c).toArray] W fun e w' => e = .returned (.tuple #[.agg (R.1.cs none 0 0).toArray, .bool R.2]) ∧ Below W.heap.size W w') := Lib.hid (by rw [← hR]; exact rrefuse_n p A n c hn1 hin.1)
    have HTK : Hid (∀ W : World, Calls Try.prog 20 #[.agg (p.cs A n c).toArray] W fun e w' => e = .returned (.int .i64 (takesN p.fl n : Int)) ∧ Below W.heap.size W w') := Lib.hid (takes_n p A n c hn1)
    have HRTK : Hid (∀ W : World, Calls Try.prog 21 #[.agg (p.cs A n c).toArray] W fun e w' => e = .returned (.int .i64 (takesN p.fl n : Int)) ∧ Below W.heap.size W w') := Lib.hid (rtakes_n p A n c hn1)
    have HBK : Hid (∀ W : World, Calls Try.prog 22 #[.agg (p.cs A n c).toArray] W fun e w' => e = .returned (.agg (p.back.cs none 0 0).toArray) ∧ Below W.heap.size W w') := Lib.hid (back_n p A n c)
    have HRBK : Hid (∀ W : World, Calls Try.prog 23 #[.agg (p.cs A n c).toArray] W fun e w' => e = .returned (.agg (p.back.cs none 0 0).toArray) ∧ Below W.heap.size W w') := Lib.hid (rback_n p A n c)
    have HSB : Hid (∀ W : World, Calls Try.prog 17 #[.agg (p.back.cs none 0 0).toArray, .agg (p.back.cs none 0 0).toArray] W fun e w' => e = .returned (.bool true) ∧ Below W.heap.size W w') := Lib.hid fun W => by
      have := same_n p.back p.back none none 0 0 0 0 rfl rfl W (RB.nil _ _) (RB.nil _ _)
      rw [sameP_self] at this
      exact this
    have HSR : Hid (∀ W : World, Calls Try.prog 17 #[.agg (R.1.cs none 0 0).toArray, .agg (R.1.cs none 0 0).toArray] W fun e w' => e = .returned (.bool true) ∧ Below W.heap.size W w') := Lib.hid fun W => by
      have := same_n R.1 R.1 none none 0 0 0 0 (by rw [hRd]; rfl) (by rw [hRd]; rfl) W (by rw [hRd]; exact RB.nil _ _) (by rw [hRd]; exact RB.nil _ _)
      rw [sameP_self] at this
      exact this
    clear h hin hR hRd hc hn hcm hn1
    obtain ⟨T, hT⟩ : ∃ T, takesN p.fl n = T := ⟨_, rfl⟩
    rw [hT] at HTK HRTK
    clear hT
    obtain ⟨src, dst, sp, dp, seq, ack, fl, wn, pr, og, data⟩ := p
    obtain ⟨⟨r0, r1, r2, r3, r4, r5, r6, r7, r8, r9, rd⟩, rb⟩ := R
    simp only [Pk.cs, Pk.back] at HREF HRREF HTK HRTK HBK HRBK HSB HSR ⊢
    go_enter Try.func5, Try.ntmps5
    go_wp2_with fail
    refine (HREF.out _).mono ?_
    rintro e w3 ⟨rfl, hb3⟩
    have hz3 : w.heap.size + 1 ≤ w3.heap.size := by have := hb3.size; simp at this; omega
    have HP3 := Lib.hid ((hb3.block w.heap.size (by simp)).trans (heap_end rfl _ _))
    have HB3 := Lib.hid (ext_trans (ext_alloc _ _) hb3)
    clear hb3
    obtain ⟨kp, hkp⟩ : ∃ k, w.heap.size = k := ⟨_, rfl⟩
    obtain ⟨k3, hk3⟩ : ∃ k, w3.heap.size = k := ⟨_, rfl⟩
    have HKP := Lib.hid hkp
    have HK3 := Lib.hid hk3
    go_upto_region 4 with fail
    have hx := ext_alloc w3 (.cells #[.int .i64 r0, .int .i64 r1, .int .i64 r2, .int .i64 r3, .int .u32 (r4 : Int), .int .u32 (r5 : Int), .int .i64 r6, .int .i64 r7, .int .i64 r8, .int .i64 r9, .slice none 0 0] 25)
    have HA4 : Hid (BK (w3.alloc (.cells #[.int .i64 r0, .int .i64 r1, .int .i64 r2, .int .i64 r3, .int .u32 (r4 : Int), .int .u32 (r5 : Int), .int .i64 r6, .int .i64 r7, .int .i64 r8, .int .i64 r9, .slice none 0 0] 25)) k3 25 [.int .i64 r0, .int .i64 r1, .int .i64 r2, .int .i64 r3, .int .u32 (r4 : Int), .int .u32 (r5 : Int), .int .i64 r6, .int .i64 r7, .int .i64 r8, .int .i64 r9, .slice none 0 0]) := Lib.hid (heap_end HK3.out _ _)
    have HP4 : Hid (BK (w3.alloc (.cells #[.int .i64 r0, .int .i64 r1, .int .i64 r2, .int .i64 r3, .int .u32 (r4 : Int), .int .u32 (r5 : Int), .int .i64 r6, .int .i64 r7, .int .i64 r8, .int .i64 r9, .slice none 0 0] 25)) kp 25 [.int .i64 src, .int .i64 dst, .int .i64 sp, .int .i64 dp, .int .u32 (seq : Int), .int .u32 (ack : Int), .int .i64 fl, .int .i64 wn, .int .i64 pr, .int .i64 og, .slice A n c]) := Lib.hid (heap_old (by rw [← HKP.out]; exact HP3.out))
    have HB4 := Lib.hid (ext_trans HB3.out hx)
    clear hx hkp hk3
    generalize w3.alloc (.cells #[.int .i64 r0, .int .i64 r1, .int .i64 r2, .int .i64 r3, .int .u32 (r4 : Int), .int .u32 (r5 : Int), .int .i64 r6, .int .i64 r7, .int .i64 r8, .int .i64 r9, .slice none 0 0] 25) = w4 at *
    have q0 : w4.cell? ⟨kp, 0, none⟩ = some (.int .i64 src) := HP4.out.cell rfl
    have q1 : w4.cell? ⟨kp, 1, none⟩ = some (.int .i64 dst) := HP4.out.cell rfl
    have q2 : w4.cell? ⟨kp, 2, none⟩ = some (.int .i64 sp) := HP4.out.cell rfl
    have q3 : w4.cell? ⟨kp, 3, none⟩ = some (.int .i64 dp) := HP4.out.cell rfl
    have q4 : w4.cell? ⟨kp, 4, none⟩ = some (.int .u32 (seq : Int)) := HP4.out.cell rfl
    have q5 : w4.cell? ⟨kp, 5, none⟩ = some (.int .u32 (ack : Int)) := HP4.out.cell rfl
    have q6 : w4.cell? ⟨kp, 6, none⟩ = some (.int .i64 fl) := HP4.out.cell rfl
    have q7 : w4.cell? ⟨kp, 7, none⟩ = some (.int .i64 wn) := HP4.out.cell rfl
    have q8 : w4.cell? ⟨kp, 8, none⟩ = some (.int .i64 pr) := HP4.out.cell rfl
    have q9 : w4.cell? ⟨kp, 9, none⟩ = some (.int .i64 og) := HP4.out.cell rfl
    have q10 : w4.cell? ⟨kp, 10, none⟩ = some (.slice A n c) := HP4.out.cell rfl
    go_wp2_with fail
    refine (HRREF.out _).mono ?_
    rintro e w5 ⟨rfl, hb5⟩
    have HA5 := Lib.hid (HA4.out.ext hb5)
    have HP5 := Lib.hid (HP4.out.ext hb5)
    have HB5 := Lib.hid (ext_trans HB4.out hb5)
    clear q0 q1 q2 q3 q4 q5 q6 q7 q8 q9 q10 HA4 HP4 HB4
    clear hb5 HP3 HB3 hz3 HREF HRREF
    obtain ⟨k5, hk5⟩ : ∃ k, w5.heap.size = k := ⟨_, rfl⟩
    have HK5 := Lib.hid hk5
    go_upto_region 5 with fail
    have HA7 := Lib.hid (HA5.out.ext (ext_alloc w5 (.cells #[.int .i64 r0, .int .i64 r1, .int .i64 r2, .int .i64 r3, .int .u32 (r4 : Int), .int .u32 (r5 : Int), .int .i64 r6, .int .i64 r7, .int .i64 r8, .int .i64 r9, .slice none 0 0] 25)))
    have HP7 := Lib.hid (HP5.out.ext (ext_alloc w5 (.cells #[.int .i64 r0, .int .i64 r1, .int .i64 r2, .int .i64 r3, .int .u32 (r4 : Int), .int .u32 (r5 : Int), .int .i64 r6, .int .i64 r7, .int .i64 r8, .int .i64 r9, .slice none 0 0] 25)))
    have HB7 := Lib.hid (ext_trans HB5.out (ext_alloc w5 (.cells #[.int .i64 r0, .int .i64 r1, .int .i64 r2, .int .i64 r3, .int .u32 (r4 : Int), .int .u32 (r5 : Int), .int .i64 r6, .int .i64 r7, .int .i64 r8, .int .i64 r9, .slice none 0 0] 25)))
    have HC7 : Hid (BK (w5.alloc (.cells #[.int .i64 r0, .int .i64 r1, .int .i64 r2, .int .i64 r3, .int .u32 (r4 : Int), .int .u32 (r5 : Int), .int .i64 r6, .int .i64 r7, .int .i64 r8, .int .i64 r9, .slice none 0 0] 25)) k5 25 [.int .i64 r0, .int .i64 r1, .int .i64 r2, .int .i64 r3, .int .u32 (r4 : Int), .int .u32 (r5 : Int), .int .i64 r6, .int .i64 r7, .int .i64 r8, .int .i64 r9, .slice none 0 0]) := Lib.hid (heap_end HK5.out _ _)
    clear HA5 HP5 HB5
    generalize w5.alloc (.cells #[.int .i64 r0, .int .i64 r1, .int .i64 r2, .int .i64 r3, .int .u32 (r4 : Int), .int .u32 (r5 : Int), .int .i64 r6, .int .i64 r7, .int .i64 r8, .int .i64 r9, .slice none 0 0] 25) = w7 at *
    clear hk5
    refine wp_region_facts [[], [0], [], [2], [0, 1, 2, 3], [0, 1, 2, 3, 4], [0, 1, 2, 3, 4, 5], [0, 1, 2, 3, 4, 5, 6], [0, 1, 2, 3, 4, 5], [0, 1, 2, 3, 4, 5, 8], [0, 1, 2, 3, 4, 5, 6, 7, 8, 9], [0, 1, 2, 3, 4, 5, 6, 7, 8, 9, 10], [0, 1, 2, 3, 4, 5, 6, 7, 8, 9, 10, 11], [0, 1, 2, 3, 4, 5, 6, 7, 8, 9, 10, 11, 12], [0, 1, 2, 3, 4, 5, 6, 7, 8, 9, 10, 11, 12], [0, 1, 2, 3, 4, 5, 6, 7, 8, 9, 10, 11, 12, 13, 14], [0, 1, 2, 3, 4, 5, 6, 7, 8, 9, 10, 11, 12, 13, 14, 15], [0, 1, 2, 3, 4, 5, 6, 7, 8, 9, 10, 11, 12, 13, 14, 15, 16], [0, 1, 2, 3, 4, 5, 6, 7, 8, 9, 10, 11, 12, 13, 14, 15, 16, 17], [0, 1, 2, 3, 4, 5, 6, 7, 8, 9, 10, 11, 12, 13, 14, 15, 16, 17], [0, 1, 2, 3, 4, 5, 6, 7, 8, 9, 10, 11, 12, 13, 14, 15, 16, 17, 18, 19], [0, 1, 2, 3, 4, 5, 6, 7, 8, 9, 10, 11, 12, 13, 14, 15, 16, 17, 18, 19, 20], [0, 1, 2, 3, 4, 5, 6, 7, 8, 9, 10, 11, 12, 13, 14, 15, 16, 17, 18, 19, 20, 21], [0, 1, 2, 3, 4, 5, 6, 7, 8, 9, 10, 11, 12, 13, 14, 15, 16, 17, 18, 19, 20, 21, 22], [0, 1, 2, 3, 4, 5, 6, 7, 8, 9, 10, 11, 12, 13, 14, 15, 16, 17, 18, 19, 20, 21, 22, 23], [0, 1, 2, 3, 4, 5, 6, 7, 8, 9, 10, 11, 12, 13, 14, 15, 16, 17, 18, 19, 20, 21, 22, 23, 24]]
      [fun u _ => u = .agg #[.int .i64 src, .int .i64 dst, .int .i64 sp, .int .i64 dp, .int .u32 (seq : Int), .int .u32 (ack : Int), .int .i64 fl, .int .i64 wn, .int .i64 pr, .int .i64 og, .slice A n c],
       fun u _ => u = .int .i64 (T : Int),
       fun u _ => u = .agg #[.int .i64 src, .int .i64 dst, .int .i64 sp, .int .i64 dp, .int .u32 (seq : Int), .int .u32 (ack : Int), .int .i64 fl, .int .i64 wn, .int .i64 pr, .int .i64 og, .slice A n c],
       fun u _ => u = .int .i64 (T : Int),
       fun u _ => u = .bool true,
       fun u _ => u = .bool true,
       fun u _ => u = .agg #[.int .i64 src, .int .i64 dst, .int .i64 sp, .int .i64 dp, .int .u32 (seq : Int), .int .u32 (ack : Int), .int .i64 fl, .int .i64 wn, .int .i64 pr, .int .i64 og, .slice A n c],
       fun u _ => u = .agg #[.int .i64 dst, .int .i64 src, .int .i64 dp, .int .i64 sp, .int .u32 0, .int .u32 0, .int .i64 0, .int .i64 0, .int .i64 0, .int .i64 0, .slice none 0 0],
       fun u _ => u = .agg #[.int .i64 src, .int .i64 dst, .int .i64 sp, .int .i64 dp, .int .u32 (seq : Int), .int .u32 (ack : Int), .int .i64 fl, .int .i64 wn, .int .i64 pr, .int .i64 og, .slice A n c],
       fun u _ => u = .agg #[.int .i64 dst, .int .i64 src, .int .i64 dp, .int .i64 sp, .int .u32 0, .int .u32 0, .int .i64 0, .int .i64 0, .int .i64 0, .int .i64 0, .slice none 0 0],
       fun u _ => u = .bool true,
       fun u _ => u = .bool true,
       fun u _ => u = .bool true,
       fun u _ => u = .agg #[.int .i64 r0, .int .i64 r1, .int .i64 r2, .int .i64 r3, .int .u32 (r4 : Int), .int .u32 (r5 : Int), .int .i64 r6, .int .i64 r7, .int .i64 r8, .int .i64 r9, .slice none 0 0],
       fun u _ => u = .agg #[.int .i64 r0, .int .i64 r1, .int .i64 r2, .int .i64 r3, .int .u32 (r4 : Int), .int .u32 (r5 : Int), .int .i64 r6, .int .i64 r7, .int .i64 r8, .int .i64 r9, .slice none 0 0],
       fun u _ => u = .bool true,
       fun u _ => u = .bool true,
       fun u _ => u = .bool true,
       fun u _ => u = .bool rb,
       fun u _ => u = .bool rb,
       fun u _ => u = .bool true,
       fun u _ => u = .bool true,
       fun u _ => u = .bool true,
       fun u _ => u = .bool true,
       fun u _ => u = .bool true,
       fun u _ => u = .bool true]
      (fun u => ⟨#[Value.agg #[Value.int IntKind.i64 src, Value.int IntKind.i64 dst, Value.int IntKind.i64 sp, Value.int IntKind.i64 dp, Value.int IntKind.u32 (seq : Int), Value.int IntKind.u32 (ack : Int), Value.int IntKind.i64 fl, Value.int IntKind.i64 wn, Value.int IntKind.i64 pr, Value.int IntKind.i64 og, Value.slice A n c], Value.pointer (some { block := kp, off := 0 }), u 25, Value.pointer (some { block := k3, off := 0 }), Value.bool rb, Value.pointer (some { block := k5, off := 0 }), Value.bool rb, Value.pointer (some { block := kp, off := 10 }), Value.slice A n c, Value.int IntKind.i64 (n : Int), Value.bool (decide (16384 < (n : Int))), undef, Value.tuple #[Value.agg #[Value.int IntKind.i64 r0, Value.int IntKind.i64 r1, Value.int IntKind.i64 r2, Value.int IntKind.i64 r3, Value.int IntKind.u32 (r4 : Int), Value.int IntKind.u32 (r5 : Int), Value.int IntKind.i64 r6, Value.int IntKind.i64 r7, Value.int IntKind.i64 r8, Value.int IntKind.i64 r9, Value.slice none 0 0], Value.bool rb], Value.agg #[Value.int IntKind.i64 src, Value.int IntKind.i64 dst, Value.int IntKind.i64 sp, Value.int IntKind.i64 dp, Value.int IntKind.u32 (seq : Int), Value.int IntKind.u32 (ack : Int), Value.int IntKind.i64 fl, Value.int IntKind.i64 wn, Value.int IntKind.i64 pr, Value.int IntKind.i64 og, Value.slice A n c], Value.tuple #[Value.agg #[Value.int IntKind.i64 r0, Value.int IntKind.i64 r1, Value.int IntKind.i64 r2, Value.int IntKind.i64 r3, Value.int IntKind.u32 (r4 : Int), Value.int IntKind.u32 (r5 : Int), Value.int IntKind.i64 r6, Value.int IntKind.i64 r7, Value.int IntKind.i64 r8, Value.int IntKind.i64 r9, Value.slice none 0 0], Value.bool rb], Value.agg #[Value.int IntKind.i64 r0, Value.int IntKind.i64 r1, Value.int IntKind.i64 r2, Value.int IntKind.i64 r3, Value.int IntKind.u32 (r4 : Int), Value.int IntKind.u32 (r5 : Int), Value.int IntKind.i64 r6, Value.int IntKind.i64 r7, Value.int IntKind.i64 r8, Value.int IntKind.i64 r9, Value.slice none 0 0], Value.bool rb, Value.tuple #[Value.agg #[Value.int IntKind.i64 r0, Value.int IntKind.i64 r1, Value.int IntKind.i64 r2, Value.int IntKind.i64 r3, Value.int IntKind.u32 (r4 : Int), Value.int IntKind.u32 (r5 : Int), Value.int IntKind.i64 r6, Value.int IntKind.i64 r7, Value.int IntKind.i64 r8, Value.int IntKind.i64 r9, Value.slice none 0 0], Value.bool rb], Value.agg #[Value.int IntKind.i64 src, Value.int IntKind.i64 dst, Value.int IntKind.i64 sp, Value.int IntKind.i64 dp, Value.int IntKind.u32 (seq : Int), Value.int IntKind.u32 (ack : Int), Value.int IntKind.i64 fl, Value.int IntKind.i64 wn, Value.int IntKind.i64 pr, Value.int IntKind.i64 og, Value.slice A n c], Value.tuple #[Value.agg #[Value.int IntKind.i64 r0, Value.int IntKind.i64 r1, Value.int IntKind.i64 r2, Value.int IntKind.i64 r3, Value.int IntKind.u32 (r4 : Int), Value.int IntKind.u32 (r5 : Int), Value.int IntKind.i64 r6, Value.int IntKind.i64 r7, Value.int IntKind.i64 r8, Value.int IntKind.i64 r9, Value.slice none 0 0], Value.bool rb], Value.agg #[Value.int IntKind.i64 r0, Value.int IntKind.i64 r1, Value.int IntKind.i64 r2, Value.int IntKind.i64 r3, Value.int IntKind.u32 (r4 : Int), Value.int IntKind.u32 (r5 : Int), Value.int IntKind.i64 r6, Value.int IntKind.i64 r7, Value.int IntKind.i64 r8, Value.int IntKind.i64 r9, Value.slice none 0 0], Value.bool rb, u 0, u 1, u 2, u 3, u 4, u 5, u 6, u 7, u 8, u 9, u 10, u 11, u 12, u 13, u 14, u 15, u 16, u 17, u 18, u 19, u 20, u 21, u 22, u 23, u 24], []⟩)
      (fun j => [undef, undef, undef, undef, undef, undef, undef, undef, undef, undef, undef, undef, undef, undef, undef, undef, undef, undef, undef, undef, undef, undef, undef, undef, undef, Value.bool false].getD j undef) (by kernel_rfl) (by kernel_rfl) (by kernel_rfl) rfl ⟨Mono.eq _, Mono.eq _, Mono.eq _, Mono.eq _, Mono.eq _, Mono.eq _, Mono.eq _, Mono.eq _, Mono.eq _, Mono.eq _, Mono.eq _, Mono.eq _, Mono.eq _, Mono.eq _, Mono.eq _, Mono.eq _, Mono.eq _, Mono.eq _, Mono.eq _, Mono.eq _, Mono.eq _, Mono.eq _, Mono.eq _, Mono.eq _, Mono.eq _, Mono.eq _, trivial⟩ ?_ ?_
    · refine ⟨?_, ?_, ?_, ?_, ?_, ?_, ?_, ?_, ?_, ?_, ?_, ?_, ?_, ?_, ?_, ?_, ?_, ?_, ?_, ?_, ?_, ?_, ?_, ?_, ?_, ?_, trivial⟩
      · intro u w2 hb hF J K hJ hK
        have HB2 := Lib.hid hb
        have HF := Lib.hid hF
        clear hb hF
        have q0 : w2.cell? ⟨kp, 0, none⟩ = some (.int .i64 src) := (HP7.out.ext HB2.out).cell rfl
        have q1 : w2.cell? ⟨kp, 1, none⟩ = some (.int .i64 dst) := (HP7.out.ext HB2.out).cell rfl
        have q2 : w2.cell? ⟨kp, 2, none⟩ = some (.int .i64 sp) := (HP7.out.ext HB2.out).cell rfl
        have q3 : w2.cell? ⟨kp, 3, none⟩ = some (.int .i64 dp) := (HP7.out.ext HB2.out).cell rfl
        have q4 : w2.cell? ⟨kp, 4, none⟩ = some (.int .u32 (seq : Int)) := (HP7.out.ext HB2.out).cell rfl
        have q5 : w2.cell? ⟨kp, 5, none⟩ = some (.int .u32 (ack : Int)) := (HP7.out.ext HB2.out).cell rfl
        have q6 : w2.cell? ⟨kp, 6, none⟩ = some (.int .i64 fl) := (HP7.out.ext HB2.out).cell rfl
        have q7 : w2.cell? ⟨kp, 7, none⟩ = some (.int .i64 wn) := (HP7.out.ext HB2.out).cell rfl
        have q8 : w2.cell? ⟨kp, 8, none⟩ = some (.int .i64 pr) := (HP7.out.ext HB2.out).cell rfl
        have q9 : w2.cell? ⟨kp, 9, none⟩ = some (.int .i64 og) := (HP7.out.ext HB2.out).cell rfl
        have q10 : w2.cell? ⟨kp, 10, none⟩ = some (.slice A n c) := (HP7.out.ext HB2.out).cell rfl
        go_wp2
        exact hJ _ _ _ (Below.refl _ _) (rfl) (by simp [setU] <;> omega)
      · intro u w2 hb hF J K hJ hK
        have HB2 := Lib.hid hb
        have HF := Lib.hid hF
        clear hb hF
        have f0 : u 0 = .agg #[.int .i64 src, .int .i64 dst, .int .i64 sp, .int .i64 dp, .int .u32 (seq : Int), .int .u32 (ack : Int), .int .i64 fl, .int .i64 wn, .int .i64 pr, .int .i64 og, .slice A n c] := HF.out 0 (by decide)
        go_wp2_with fail
        refine (HTK.out w2).mono ?_
        rintro e w4 ⟨rfl, hb4⟩
        have HB4 := Lib.hid hb4
        clear hb4
        go_wp2
        exact hJ _ _ _ (HB4.out) (rfl) (by simp [setU, f0] <;> omega)
      · intro u w2 hb hF J K hJ hK
        have HB2 := Lib.hid hb
        have HF := Lib.hid hF
        clear hb hF
        have q0 : w2.cell? ⟨kp, 0, none⟩ = some (.int .i64 src) := (HP7.out.ext HB2.out).cell rfl
        have q1 : w2.cell? ⟨kp, 1, none⟩ = some (.int .i64 dst) := (HP7.out.ext HB2.out).cell rfl
        have q2 : w2.cell? ⟨kp, 2, none⟩ = some (.int .i64 sp) := (HP7.out.ext HB2.out).cell rfl
        have q3 : w2.cell? ⟨kp, 3, none⟩ = some (.int .i64 dp) := (HP7.out.ext HB2.out).cell rfl
        have q4 : w2.cell? ⟨kp, 4, none⟩ = some (.int .u32 (seq : Int)) := (HP7.out.ext HB2.out).cell rfl
        have q5 : w2.cell? ⟨kp, 5, none⟩ = some (.int .u32 (ack : Int)) := (HP7.out.ext HB2.out).cell rfl
        have q6 : w2.cell? ⟨kp, 6, none⟩ = some (.int .i64 fl) := (HP7.out.ext HB2.out).cell rfl
        have q7 : w2.cell? ⟨kp, 7, none⟩ = some (.int .i64 wn) := (HP7.out.ext HB2.out).cell rfl
        have q8 : w2.cell? ⟨kp, 8, none⟩ = some (.int .i64 pr) := (HP7.out.ext HB2.out).cell rfl
        have q9 : w2.cell? ⟨kp, 9, none⟩ = some (.int .i64 og) := (HP7.out.ext HB2.out).cell rfl
        have q10 : w2.cell? ⟨kp, 10, none⟩ = some (.slice A n c) := (HP7.out.ext HB2.out).cell rfl
        go_wp2
        exact hJ _ _ _ (Below.refl _ _) (rfl) (by simp [setU] <;> omega)
      · intro u w2 hb hF J K hJ hK
        have HB2 := Lib.hid hb
        have HF := Lib.hid hF
        clear hb hF
        have f2 : u 2 = .agg #[.int .i64 src, .int .i64 dst, .int .i64 sp, .int .i64 dp, .int .u32 (seq : Int), .int .u32 (ack : Int), .int .i64 fl, .int .i64 wn, .int .i64 pr, .int .i64 og, .slice A n c] := HF.out 2 (by decide)
        go_wp2_with fail
        refine (HRTK.out w2).mono ?_
        rintro e w4 ⟨rfl, hb4⟩
        have HB4 := Lib.hid hb4
        clear hb4
        go_wp2
        exact hJ _ _ _ (HB4.out) (rfl) (by simp [setU, f2] <;> omega)
      · intro u w2 hb hF J K hJ hK
        have HB2 := Lib.hid hb
        have HF := Lib.hid hF
        clear hb hF
        have f1 : u 1 = .int .i64 (T : Int) := HF.out 1 (by decide)
        have f3 : u 3 = .int .i64 (T : Int) := HF.out 3 (by decide)
        go_wp2
        exact hJ _ _ _ (Below.refl _ _) (rfl) (by simp [setU, f1, f3] <;> omega)
      · intro u w2 hb hF J K hJ hK
        have HB2 := Lib.hid hb
        have HF := Lib.hid hF
        clear hb hF
        have f4 : u 4 = .bool true := HF.out 4 (by decide)
        go_wp2
        exact hJ _ _ _ (Below.refl _ _) (rfl) (by simp [setU, f4] <;> omega)
      · intro u w2 hb hF J K hJ hK
        have HB2 := Lib.hid hb
        have HF := Lib.hid hF
        clear hb hF
        have f5 : u 5 = .bool true := HF.out 5 (by decide)
        have q0 : w2.cell? ⟨kp, 0, none⟩ = some (.int .i64 src) := (HP7.out.ext HB2.out).cell rfl
        have q1 : w2.cell? ⟨kp, 1, none⟩ = some (.int .i64 dst) := (HP7.out.ext HB2.out).cell rfl
        have q2 : w2.cell? ⟨kp, 2, none⟩ = some (.int .i64 sp) := (HP7.out.ext HB2.out).cell rfl
        have q3 : w2.cell? ⟨kp, 3, none⟩ = some (.int .i64 dp) := (HP7.out.ext HB2.out).cell rfl
        have q4 : w2.cell? ⟨kp, 4, none⟩ = some (.int .u32 (seq : Int)) := (HP7.out.ext HB2.out).cell rfl
        have q5 : w2.cell? ⟨kp, 5, none⟩ = some (.int .u32 (ack : Int)) := (HP7.out.ext HB2.out).cell rfl
        have q6 : w2.cell? ⟨kp, 6, none⟩ = some (.int .i64 fl) := (HP7.out.ext HB2.out).cell rfl
        have q7 : w2.cell? ⟨kp, 7, none⟩ = some (.int .i64 wn) := (HP7.out.ext HB2.out).cell rfl
        have q8 : w2.cell? ⟨kp, 8, none⟩ = some (.int .i64 pr) := (HP7.out.ext HB2.out).cell rfl
        have q9 : w2.cell? ⟨kp, 9, none⟩ = some (.int .i64 og) := (HP7.out.ext HB2.out).cell rfl
        have q10 : w2.cell? ⟨kp, 10, none⟩ = some (.slice A n c) := (HP7.out.ext HB2.out).cell rfl
        go_wp2
        exact hJ _ _ _ (Below.refl _ _) (rfl) (by simp [setU, f5] <;> omega)
      · intro u w2 hb hF J K hJ hK
        have HB2 := Lib.hid hb
        have HF := Lib.hid hF
        clear hb hF
        have f5 : u 5 = .bool true := HF.out 5 (by decide)
        have f6 : u 6 = .agg #[.int .i64 src, .int .i64 dst, .int .i64 sp, .int .i64 dp, .int .u32 (seq : Int), .int .u32 (ack : Int), .int .i64 fl, .int .i64 wn, .int .i64 pr, .int .i64 og, .slice A n c] := HF.out 6 (by decide)
        go_wp2_with fail
        refine (HBK.out w2).mono ?_
        rintro e w4 ⟨rfl, hb4⟩
        have HB4 := Lib.hid hb4
        clear hb4
        go_wp2
        exact hJ _ _ _ (HB4.out) (rfl) (by simp [setU, f5, f6] <;> omega)
      · intro u w2 hb hF J K hJ hK
        have HB2 := Lib.hid hb
        have HF := Lib.hid hF
        clear hb hF
        have f5 : u 5 = .bool true := HF.out 5 (by decide)
        have q0 : w2.cell? ⟨kp, 0, none⟩ = some (.int .i64 src) := (HP7.out.ext HB2.out).cell rfl
        have q1 : w2.cell? ⟨kp, 1, none⟩ = some (.int .i64 dst) := (HP7.out.ext HB2.out).cell rfl
        have q2 : w2.cell? ⟨kp, 2, none⟩ = some (.int .i64 sp) := (HP7.out.ext HB2.out).cell rfl
        have q3 : w2.cell? ⟨kp, 3, none⟩ = some (.int .i64 dp) := (HP7.out.ext HB2.out).cell rfl
        have q4 : w2.cell? ⟨kp, 4, none⟩ = some (.int .u32 (seq : Int)) := (HP7.out.ext HB2.out).cell rfl
        have q5 : w2.cell? ⟨kp, 5, none⟩ = some (.int .u32 (ack : Int)) := (HP7.out.ext HB2.out).cell rfl
        have q6 : w2.cell? ⟨kp, 6, none⟩ = some (.int .i64 fl) := (HP7.out.ext HB2.out).cell rfl
        have q7 : w2.cell? ⟨kp, 7, none⟩ = some (.int .i64 wn) := (HP7.out.ext HB2.out).cell rfl
        have q8 : w2.cell? ⟨kp, 8, none⟩ = some (.int .i64 pr) := (HP7.out.ext HB2.out).cell rfl
        have q9 : w2.cell? ⟨kp, 9, none⟩ = some (.int .i64 og) := (HP7.out.ext HB2.out).cell rfl
        have q10 : w2.cell? ⟨kp, 10, none⟩ = some (.slice A n c) := (HP7.out.ext HB2.out).cell rfl
        go_wp2
        exact hJ _ _ _ (Below.refl _ _) (rfl) (by simp [setU, f5] <;> omega)
      · intro u w2 hb hF J K hJ hK
        have HB2 := Lib.hid hb
        have HF := Lib.hid hF
        clear hb hF
        have f5 : u 5 = .bool true := HF.out 5 (by decide)
        have f8 : u 8 = .agg #[.int .i64 src, .int .i64 dst, .int .i64 sp, .int .i64 dp, .int .u32 (seq : Int), .int .u32 (ack : Int), .int .i64 fl, .int .i64 wn, .int .i64 pr, .int .i64 og, .slice A n c] := HF.out 8 (by decide)
        go_wp2_with fail
        refine (HRBK.out w2).mono ?_
        rintro e w4 ⟨rfl, hb4⟩
        have HB4 := Lib.hid hb4
        clear hb4
        go_wp2
        exact hJ _ _ _ (HB4.out) (rfl) (by simp [setU, f5, f8] <;> omega)
      · intro u w2 hb hF J K hJ hK
        have HB2 := Lib.hid hb
        have HF := Lib.hid hF
        clear hb hF
        have f5 : u 5 = .bool true := HF.out 5 (by decide)
        have f7 : u 7 = .agg #[.int .i64 dst, .int .i64 src, .int .i64 dp, .int .i64 sp, .int .u32 0, .int .u32 0, .int .i64 0, .int .i64 0, .int .i64 0, .int .i64 0, .slice none 0 0] := HF.out 7 (by decide)
        have f9 : u 9 = .agg #[.int .i64 dst, .int .i64 src, .int .i64 dp, .int .i64 sp, .int .u32 0, .int .u32 0, .int .i64 0, .int .i64 0, .int .i64 0, .int .i64 0, .slice none 0 0] := HF.out 9 (by decide)
        go_wp2_with fail
        refine (HSB.out w2).mono ?_
        rintro e w4 ⟨rfl, hb4⟩
        have HB4 := Lib.hid hb4
        clear hb4
        go_wp2
        exact hJ _ _ _ (HB4.out) (rfl) (by simp [setU, f5, f7, f9] <;> omega)
      · intro u w2 hb hF J K hJ hK
        have HB2 := Lib.hid hb
        have HF := Lib.hid hF
        clear hb hF
        have f5 : u 5 = .bool true := HF.out 5 (by decide)
        have f10 : u 10 = .bool true := HF.out 10 (by decide)
        go_wp2
        exact hJ _ _ _ (Below.refl _ _) (rfl) (by simp [setU, f5, f10] <;> omega)
      · intro u w2 hb hF J K hJ hK
        have HB2 := Lib.hid hb
        have HF := Lib.hid hF
        clear hb hF
        have f11 : u 11 = .bool true := HF.out 11 (by decide)
        go_wp2
        exact hJ _ _ _ (Below.refl _ _) (rfl) (by simp [setU, f11] <;> omega)
      · intro u w2 hb hF J K hJ hK
        have HB2 := Lib.hid hb
        have HF := Lib.hid hF
        clear hb hF
        have f12 : u 12 = .bool true := HF.out 12 (by decide)
        have q0 : w2.cell? ⟨k3, 0, none⟩ = some (.int .i64 r0) := (HA7.out.ext HB2.out).cell rfl
        have q1 : w2.cell? ⟨k3, 1, none⟩ = some (.int .i64 r1) := (HA7.out.ext HB2.out).cell rfl
        have q2 : w2.cell? ⟨k3, 2, none⟩ = some (.int .i64 r2) := (HA7.out.ext HB2.out).cell rfl
        have q3 : w2.cell? ⟨k3, 3, none⟩ = some (.int .i64 r3) := (HA7.out.ext HB2.out).cell rfl
        have q4 : w2.cell? ⟨k3, 4, none⟩ = some (.int .u32 (r4 : Int)) := (HA7.out.ext HB2.out).cell rfl
        have q5 : w2.cell? ⟨k3, 5, none⟩ = some (.int .u32 (r5 : Int)) := (HA7.out.ext HB2.out).cell rfl
        have q6 : w2.cell? ⟨k3, 6, none⟩ = some (.int .i64 r6) := (HA7.out.ext HB2.out).cell rfl
        have q7 : w2.cell? ⟨k3, 7, none⟩ = some (.int .i64 r7) := (HA7.out.ext HB2.out).cell rfl
        have q8 : w2.cell? ⟨k3, 8, none⟩ = some (.int .i64 r8) := (HA7.out.ext HB2.out).cell rfl
        have q9 : w2.cell? ⟨k3, 9, none⟩ = some (.int .i64 r9) := (HA7.out.ext HB2.out).cell rfl
        have q10 : w2.cell? ⟨k3, 10, none⟩ = some (.slice none 0 0) := (HA7.out.ext HB2.out).cell rfl
        go_wp2
        exact hJ _ _ _ (Below.refl _ _) (rfl) (by simp [setU, f12] <;> omega)
      · intro u w2 hb hF J K hJ hK
        have HB2 := Lib.hid hb
        have HF := Lib.hid hF
        clear hb hF
        have f12 : u 12 = .bool true := HF.out 12 (by decide)
        have q0 : w2.cell? ⟨k5, 0, none⟩ = some (.int .i64 r0) := (HC7.out.ext HB2.out).cell rfl
        have q1 : w2.cell? ⟨k5, 1, none⟩ = some (.int .i64 r1) := (HC7.out.ext HB2.out).cell rfl
        have q2 : w2.cell? ⟨k5, 2, none⟩ = some (.int .i64 r2) := (HC7.out.ext HB2.out).cell rfl
        have q3 : w2.cell? ⟨k5, 3, none⟩ = some (.int .i64 r3) := (HC7.out.ext HB2.out).cell rfl
        have q4 : w2.cell? ⟨k5, 4, none⟩ = some (.int .u32 (r4 : Int)) := (HC7.out.ext HB2.out).cell rfl
        have q5 : w2.cell? ⟨k5, 5, none⟩ = some (.int .u32 (r5 : Int)) := (HC7.out.ext HB2.out).cell rfl
        have q6 : w2.cell? ⟨k5, 6, none⟩ = some (.int .i64 r6) := (HC7.out.ext HB2.out).cell rfl
        have q7 : w2.cell? ⟨k5, 7, none⟩ = some (.int .i64 r7) := (HC7.out.ext HB2.out).cell rfl
        have q8 : w2.cell? ⟨k5, 8, none⟩ = some (.int .i64 r8) := (HC7.out.ext HB2.out).cell rfl
        have q9 : w2.cell? ⟨k5, 9, none⟩ = some (.int .i64 r9) := (HC7.out.ext HB2.out).cell rfl
        have q10 : w2.cell? ⟨k5, 10, none⟩ = some (.slice none 0 0) := (HC7.out.ext HB2.out).cell rfl
        go_wp2
        exact hJ _ _ _ (Below.refl _ _) (rfl) (by simp [setU, f12] <;> omega)
      · intro u w2 hb hF J K hJ hK
        have HB2 := Lib.hid hb
        have HF := Lib.hid hF
        clear hb hF
        have f12 : u 12 = .bool true := HF.out 12 (by decide)
        have f13 : u 13 = .agg #[.int .i64 r0, .int .i64 r1, .int .i64 r2, .int .i64 r3, .int .u32 (r4 : Int), .int .u32 (r5 : Int), .int .i64 r6, .int .i64 r7, .int .i64 r8, .int .i64 r9, .slice none 0 0] := HF.out 13 (by decide)
        have f14 : u 14 = .agg #[.int .i64 r0, .int .i64 r1, .int .i64 r2, .int .i64 r3, .int .u32 (r4 : Int), .int .u32 (r5 : Int), .int .i64 r6, .int .i64 r7, .int .i64 r8, .int .i64 r9, .slice none 0 0] := HF.out 14 (by decide)
        go_wp2_with fail
        refine (HSR.out w2).mono ?_
        rintro e w4 ⟨rfl, hb4⟩
        have HB4 := Lib.hid hb4
        clear hb4
        go_wp2
        exact hJ _ _ _ (HB4.out) (rfl) (by simp [setU, f12, f13, f14] <;> omega)
      · intro u w2 hb hF J K hJ hK
        have HB2 := Lib.hid hb
        have HF := Lib.hid hF
        clear hb hF
        have f12 : u 12 = .bool true := HF.out 12 (by decide)
        have f15 : u 15 = .bool true := HF.out 15 (by decide)
        go_wp2
        exact hJ _ _ _ (Below.refl _ _) (rfl) (by simp [setU, f12, f15] <;> omega)
      · intro u w2 hb hF J K hJ hK
        have HB2 := Lib.hid hb
        have HF := Lib.hid hF
        clear hb hF
        have f16 : u 16 = .bool true := HF.out 16 (by decide)
        go_wp2
        exact hJ _ _ _ (Below.refl _ _) (rfl) (by simp [setU, f16] <;> omega)
      · intro u w2 hb hF J K hJ hK
        have HB2 := Lib.hid hb
        have HF := Lib.hid hF
        clear hb hF
        have f17 : u 17 = .bool true := HF.out 17 (by decide)
        go_wp2
        exact hJ _ _ _ (Below.refl _ _) (rfl) (by simp [setU, f17] <;> omega)
      · intro u w2 hb hF J K hJ hK
        have HB2 := Lib.hid hb
        have HF := Lib.hid hF
        clear hb hF
        have f17 : u 17 = .bool true := HF.out 17 (by decide)
        go_wp2
        exact hJ _ _ _ (Below.refl _ _) (rfl) (by simp [setU, f17] <;> omega)
      · intro u w2 hb hF J K hJ hK
        have HB2 := Lib.hid hb
        have HF := Lib.hid hF
        clear hb hF
        have f17 : u 17 = .bool true := HF.out 17 (by decide)
        have f18 : u 18 = .bool rb := HF.out 18 (by decide)
        have f19 : u 19 = .bool rb := HF.out 19 (by decide)
        go_wp2
        exact hJ _ _ _ (Below.refl _ _) (rfl) (by simp [setU, f17, f18, f19] <;> omega)
      · intro u w2 hb hF J K hJ hK
        have HB2 := Lib.hid hb
        have HF := Lib.hid hF
        clear hb hF
        have f17 : u 17 = .bool true := HF.out 17 (by decide)
        have f20 : u 20 = .bool true := HF.out 20 (by decide)
        go_wp2
        exact hJ _ _ _ (Below.refl _ _) (rfl) (by simp [setU, f17, f20] <;> omega)
      · intro u w2 hb hF J K hJ hK
        have HB2 := Lib.hid hb
        have HF := Lib.hid hF
        clear hb hF
        have f21 : u 21 = .bool true := HF.out 21 (by decide)
        go_wp2
        exact hJ _ _ _ (Below.refl _ _) (rfl) (by simp [setU, f21] <;> omega)
      · intro u w2 hb hF J K hJ hK
        have HB2 := Lib.hid hb
        have HF := Lib.hid hF
        clear hb hF
        have f22 : u 22 = .bool true := HF.out 22 (by decide)
        go_wp2_with fail
        refine (awake_calls w2).mono ?_
        rintro e w4 ⟨rfl, hb4⟩
        have HB4 := Lib.hid hb4
        clear hb4
        go_wp2
        exact hJ _ _ _ (HB4.out) (rfl) (by simp [setU, f22] <;> omega)
      · intro u w2 hb hF J K hJ hK
        have HB2 := Lib.hid hb
        have HF := Lib.hid hF
        clear hb hF
        have f22 : u 22 = .bool true := HF.out 22 (by decide)
        have f23 : u 23 = .bool true := HF.out 23 (by decide)
        go_wp2
        exact hJ _ _ _ (Below.refl _ _) (rfl) (by simp [setU, f22, f23] <;> omega)
      · intro u w2 hb hF J K hJ hK
        have HB2 := Lib.hid hb
        have HF := Lib.hid hF
        clear hb hF
        have f24 : u 24 = .bool true := HF.out 24 (by decide)
        go_wp2
        exact hJ _ _ _ (Below.refl _ _) (rfl) (by simp [setU, f24] <;> omega)
    · intro u w2 hb hF
      have HB2 := Lib.hid hb
      have f25 : u 25 = .bool true := hF 25 (by decide)
      clear hb hF
      have HB8 := Lib.hid (HB7.out.trans (HB2.out.mono HB7.out.size))
      clear HB2
      dsimp only
      rw [f25]
      go_wp2
      go_ret
      exact ⟨rfl, HB8.out⟩
end Go.Proofs.Ytobkelpeenckeaa
