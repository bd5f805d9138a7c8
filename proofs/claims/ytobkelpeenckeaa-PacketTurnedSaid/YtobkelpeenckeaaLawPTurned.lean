/- The walk of the law PacketTurned. -/
import Derived.Test.YtobkelpeenckeaaPkL
import Derived.Test.YtobkelpeenckeaaPkM
namespace Go.Proofs.Ytobkelpeenckeaa
open Go.RowKit
set_option linter.unusedVariables false
set_option linter.unusedSimpArgs false

theorem xor_lt8 {a b : Nat} (h : a < 256) (k : b < 256) : a ^^^ b < 256 := Nat.xor_lt_two_pow (n := 8) h k
theorem ofNat_toNat8 (n : Nat) (h : n < 256) : (UInt8.ofNat n).toNat = n := by simp; omega
theorem tmod_nat (n m : Nat) : ((n : Int).tmod (m : Int)) = ((n % m : Nat) : Int) := by rw [Int.tmod_eq_emod_of_nonneg (by omega)]; rfl
theorem getP_bad {l : List UInt8} (h : ¬ (inetN [l] = 65535 ∨ inetN [l] = 0)) : ∃ E, getP l = (Pk.zero, E) ∧ E ≠ 0 := by
  unfold getP
  split
  · exact ⟨2, rfl, by decide⟩
  · first
    | exact ⟨10, rfl, by decide⟩
    | (rw [if_pos h]; exact ⟨10, rfl, by decide⟩)
theorem getP_short {l : List UInt8} (h : l.length < 22) : getP l = (Pk.zero, 2) := by unfold getP; rw [if_pos (.inl h)]
theorem turned_bad (L : List UInt8) (j v : Nat) (hj : j < L.length) (hv : v < 255) (hs : inetN [L] = 0) : ∃ E, getP (L.set j (UInt8.ofNat (gb L j ^^^ (v + 1)))) = (Pk.zero, E) ∧ E ≠ 0 := by
  refine getP_bad (turned_sum L j _ hj ?_ hs)
  have hg := gb_lt L j
  rw [ofNat_toNat8 _ (xor_lt8 (by omega) (by omega))]
  intro e
  have : gb L j ^^^ (gb L j ^^^ (v + 1)) = gb L j ^^^ gb L j := by rw [e]
  rw [← Nat.xor_assoc, Nat.xor_self, Nat.zero_xor] at this
  omega
theorem u64_some (x : Int) : ∃ n : Nat, IntKind.u64.wrap x = n ∧ n < 18446744073709551616 := by
  have h : IntKind.u64.wrap x = x % 18446744073709551616 := by simp [IntKind.wrap, IntKind.bits, IntKind.signed]
  exact ⟨(x % 18446744073709551616).toNat, by rw [h]; omega, by omega⟩
set_option maxRecDepth 100000 in
set_option maxHeartbeats 2000000 in
theorem pturned_walk (w : World) (p : Pk) (A : Option Addr) (c : Nat) (h : RB w A p.data) (hc : p.data.length ≤ c) (hcm : c ≤ maxLen) (hin : PkIn p)
    (at_ : Int) (ha0 : -9223372036854775808 ≤ at_) (ha1 : at_ ≤ 9223372036854775807) (x : Int) (hx0 : -9223372036854775808 ≤ x) (hx1 : x ≤ 9223372036854775807) :
    Calls Try.prog 4 #[.agg (p.cs A p.data.length c).toArray, .int .i64 at_, .int .i64 x] w fun e w' => e = .returned (.bool true) ∧ Below w.heap.size w w' := by
  obtain ⟨n, hn⟩ : ∃ n, p.data.length = n := ⟨_, rfl⟩
  rw [hn] at hc ⊢
  by_cases hs : 16384 < n
  · clear h hin hn hc
    obtain ⟨src, dst, sp, dp, seq, ack, fl, wn, pr, og, data⟩ := p
    simp only [Pk.cs]
    go_enter Try.func4, Try.ntmps4
    go_wp2_with fail
    refine (awake_calls _).mono ?_
    rintro e w2 ⟨rfl, hb⟩
    have HB := Lib.hid (ext_trans (ext_alloc _ _) hb)
    clear hb
    go_wp2
    go_ret
    exact ⟨rfl, HB.out⟩
  · by_cases hok : okN p n = true
    · have hlen := putP_len p n hn hok
      have hsum : inetN [putP p] = 0 := putL_sum _ _ _ _ _ _ _ _ _ _ _
      obtain ⟨L, hL⟩ : ∃ L, putP p = L := ⟨_, rfl⟩
      obtain ⟨m, hm⟩ : ∃ m, L.length = m := ⟨_, rfl⟩
      have HPT : Hid (∀ W : World, RB W A p.data → Calls Try.prog 14 #[.agg (p.cs A n c).toArray] W fun e w' => ∃ R m' cR, e = .returned (.tuple #[.slice R m' cR, .int .i64 0]) ∧ m' = L.length ∧ OwnB W.heap.size 5 w' (.slice R m' cR) L ∧ Below W.heap.size W w') := Lib.hid fun W hr => by
        have := put_good p A n c hn W hr hc hin.1 hin.2 hok
        rw [hL] at this
        exact this
      rw [hL] at hlen hsum
      have HSUM := Lib.hid hsum
      have HM := Lib.hid hm
      rw [hm] at hlen
      have hm22 : 22 ≤ m := by omega
      have hm1 : m ≤ 10000 := hlen.2
      have H := Lib.hid h
      clear h hin hn hc hok hlen hsum hL hm
      obtain ⟨src, dst, sp, dp, seq, ack, fl, wn, pr, og, data⟩ := p
      dsimp only at H HPT
      simp only [Pk.cs] at HPT ⊢
      go_enter Try.func4, Try.ntmps4
      go_wp2_with fail
      refine (HPT.out _ (H.out.ext (ext_alloc _ _))).mono ?_
      rintro e w3 ⟨R, m', cR, rfl, hm', ho, hb3⟩
      rw [HM.out] at hm'
      subst hm'
      have HB3 := Lib.hid (ext_trans (ext_alloc _ _) hb3)
      obtain ⟨g1, c1, ev, hg1, hg1', hmc, hcm1⟩ := ho.block (by rw [HM.out]; omega)
      injection ev with eR em ec
      subst eR ec
      have hg0 : w.heap.size ≤ g1 := by simp at hg1; omega
      have hcR : cR ≤ 9223372036854775807 := Nat.le_trans hcm1 (by decide)
      rw [HM.out] at hmc
      have HO3 := Lib.hid (ho.mono (base' := w.heap.size) (by simp))
      clear ho hb3 hg1 em hcm1
      obtain ⟨nn, hnn, _⟩ := u64_some at_
      obtain ⟨mm, hmm, _⟩ := u64_some x
      obtain ⟨t, ht, ht1⟩ : ∃ t : Nat, (nn : Int).tmod 22 = t ∧ t < 22 := ⟨nn % 22, tmod_nat nn 22, Nat.mod_lt _ (by omega)⟩
      obtain ⟨j, hj, hj1⟩ : ∃ j : Nat, (nn : Int).tmod (m' : Int) = j ∧ j < m' := ⟨nn % m', tmod_nat nn m', Nat.mod_lt _ (by omega)⟩
      obtain ⟨v, hv, hv1⟩ : ∃ v : Nat, (mm : Int).tmod 255 = v ∧ v < 255 := ⟨mm % 255, tmod_nat mm 255, Nat.mod_lt _ (by omega)⟩
      have HRD : Hid (RB w3 (some ⟨g1, 0, none⟩) L) := Lib.hid (by
        obtain ⟨_, _, ea, hr, _⟩ := HO3.out.form
        injection ea with ea
        rw [ea]
        exact hr)
      have HLT : Hid ((L.take t).length = t) := Lib.hid (by rw [List.length_take, HM.out]; omega)
      have HGS : Hid (∀ (W : World) (R : Option Addr) (k cR : Nat) (l : List UInt8), l.length = k → RB W R l → k ≤ cR → cR ≤ 9223372036854775807 → k ≤ 100000 → ∀ E, getP l = (Pk.zero, E) → Calls Try.prog 16 #[.slice R k cR] W fun e w' => ∃ R3 d3, e = .returned (.tuple #[.agg #[.int .i64 0, .int .i64 0, .int .i64 0, .int .i64 0, .int .u32 0, .int .u32 0, .int .i64 0, .int .i64 0, .int .i64 0, .int .i64 0, .slice R3 0 d3], .int .i64 E]) ∧ Below W.heap.size W w') := Lib.hid fun W R k cR l hk hr h1 h2 h3 E hE => by
        refine (get_calls R cR k l hk W hr h1 h2 h3).mono ?_
        rintro e w' ⟨R3, n3, d3, rfl, hn3, hnd3, ho3, hb3⟩
        rw [hE] at hn3 ⊢
        have hn30 : n3 = 0 := hn3
        subst hn30
        exact ⟨R3, d3, rfl, hb3⟩
      have HSM : Hid (∀ (W : World) (R3 : Option Addr) (d3 : Nat), Calls Try.prog 17 #[.agg #[.int .i64 0, .int .i64 0, .int .i64 0, .int .i64 0, .int .u32 0, .int .u32 0, .int .i64 0, .int .i64 0, .int .i64 0, .int .i64 0, .slice R3 0 d3], .agg #[.int .i64 0, .int .i64 0, .int .i64 0, .int .i64 0, .int .u32 0, .int .u32 0, .int .i64 0, .int .i64 0, .int .i64 0, .int .i64 0, .slice none 0 0]] W fun e w' => e = .returned (.bool true) ∧ Below W.heap.size W w') := Lib.hid fun W R3 d3 => by
        have := same_n Pk.zero Pk.zero R3 none 0 d3 0 0 rfl rfl W (RB.nil _ _) (RB.nil _ _)
        rw [sameP_self] at this
        exact this
      have HTB := Lib.hid (turned_bad L j v (by rw [HM.out]; exact hj1) hv1 HSUM.out)
      obtain ⟨hc1, hf1⟩ := HO3.out.cell j (by rw [HM.out]; exact hj1)
      have hgl := gb_lt L j
      have H8 : Hid (bits BinOp.xor IntKind.u8 (gb L j : Int) (1 + (v : Int)) = (((UInt8.ofNat (gb L j ^^^ (v + 1))).toNat : Nat) : Int)) := by
        show _ = _
        rw [show 1 + (v : Int) = ((v + 1 : Nat) : Int) by omega, xor_u8 _ _ (by omega) (by omega), ofNat_toNat8 _ (xor_lt8 (by omega) (by omega))]
      have HC1 := Lib.hid hc1
      have HF1 := Lib.hid hf1
      clear hc1 hf1
      go_wp2_with fail
      refine (HGS.out w3 _ t cR (L.take t) HLT.out (HRD.out.take t) (by omega) hcR (by omega) 2 (getP_short (by rw [HLT.out]; exact ht1))).mono ?_
      rintro e w4 ⟨R3, d3, rfl, hb4⟩
      have hx := hb4
      have HO4 := Lib.hid (HO3.out.ext hb4)
      have HB4 := Lib.hid (ext_trans HB3.out hb4)
      clear hx hb4
      go_upto_region 9 with fail
      have hx := ext_alloc w4 (.cells #[.int .i64 0, .int .i64 0, .int .i64 0, .int .i64 0, .int .u32 0, .int .u32 0, .int .i64 0, .int .i64 0, .int .i64 0, .int .i64 0, .slice R3 0 d3] 25)
      have HO5 := Lib.hid (HO4.out.ext hx)
      have HB5 := Lib.hid (ext_trans HB4.out hx)
      clear hx
      generalize w4.alloc (.cells #[.int .i64 0, .int .i64 0, .int .i64 0, .int .i64 0, .int .u32 0, .int .u32 0, .int .i64 0, .int .i64 0, .int .i64 0, .int .i64 0, .slice R3 0 d3] 25) = w5 at *
      obtain ⟨hc5, hf5⟩ := HO5.out.cell j (by rw [HM.out]; exact hj1)
      go_wp2_with fail
      rw [H8.out]
      obtain ⟨E, hE, hE0⟩ := HTB.out
      have hgr := grown_setCell w5 g1 j (.int .u8 ((UInt8.ofNat (gb L j ^^^ (v + 1))).toNat : Int))
      have ho6 := HO5.out.set j (UInt8.ofNat (gb L j ^^^ (v + 1)))
      have hb6 := below_grown HB5.out hgr HB5.out.size hg0
      have hl6 : (L.set j (UInt8.ofNat (gb L j ^^^ (v + 1)))).length = m' := by rw [List.length_set, HM.out]
      obtain ⟨L6, hL6⟩ : ∃ L6, L.set j (UInt8.ofNat (gb L j ^^^ (v + 1))) = L6 := ⟨_, rfl⟩
      rw [hL6] at ho6 hl6 hE
      have HO6 := Lib.hid ho6
      have HB6 := Lib.hid hb6
      have HL6 := Lib.hid hl6
      have HE := Lib.hid hE
      have hE1 : (E == 0) = false := beq_eq_false_iff_ne.2 hE0
      have hE2 : (E != 0) = true := by simp [hE0]
      clear hgr ho6 hb6 hl6 hL6 hE HTB H8 HO3 HO4 HO5 HB3 HB4 HB5 HRD HC1 HF1 HLT
      generalize w5.setCell ⟨g1, j, none⟩ (.int .u8 ((UInt8.ofNat (gb L j ^^^ (v + 1))).toNat : Int)) = w6 at *
      have hr6 : RB w6 (some ⟨g1, 0, none⟩) L6 := by
        obtain ⟨_, _, ea, hr, _⟩ := HO6.out.form
        injection ea with ea
        rw [ea]
        exact hr
      have HR6 := Lib.hid hr6
      clear hr6 hc5 hf5
      refine (HGS.out w6 _ m' cR L6 HL6.out HR6.out hmc hcR (by omega) E HE.out).mono ?_
      rintro e w7 ⟨R7, d7, rfl, hb7⟩
      have hx := ext_alloc w7 (.cells #[.int .i64 0, .int .i64 0, .int .i64 0, .int .i64 0, .int .u32 0, .int .u32 0, .int .i64 0, .int .i64 0, .int .i64 0, .int .i64 0, .slice R7 0 d7] 25)
      have HB8 := Lib.hid (ext_trans (ext_trans HB6.out hb7) hx)
      have HZ8 : Hid (BK (w7.alloc (.cells #[.int .i64 0, .int .i64 0, .int .i64 0, .int .i64 0, .int .u32 0, .int .u32 0, .int .i64 0, .int .i64 0, .int .i64 0, .int .i64 0, .slice R7 0 d7] 25)) w7.heap.size 25 [.int .i64 0, .int .i64 0, .int .i64 0, .int .i64 0, .int .u32 0, .int .u32 0, .int .i64 0, .int .i64 0, .int .i64 0, .int .i64 0, .slice R7 0 d7]) := Lib.hid (heap_end rfl _ _)
      clear hb7 hx HO6 HB6 HR6 HE
      go_upto_region 11 with fail
      generalize w7.alloc (.cells #[.int .i64 0, .int .i64 0, .int .i64 0, .int .i64 0, .int .u32 0, .int .u32 0, .int .i64 0, .int .i64 0, .int .i64 0, .int .i64 0, .slice R7 0 d7] 25) = w8 at *
      have z0 : w8.cell? ⟨w7.heap.size, 0, none⟩ = some (.int .i64 0) := HZ8.out.cell rfl
      have z1 : w8.cell? ⟨w7.heap.size, 1, none⟩ = some (.int .i64 0) := HZ8.out.cell rfl
      have z2 : w8.cell? ⟨w7.heap.size, 2, none⟩ = some (.int .i64 0) := HZ8.out.cell rfl
      have z3 : w8.cell? ⟨w7.heap.size, 3, none⟩ = some (.int .i64 0) := HZ8.out.cell rfl
      have z4 : w8.cell? ⟨w7.heap.size, 4, none⟩ = some (.int .u32 0) := HZ8.out.cell rfl
      have z5 : w8.cell? ⟨w7.heap.size, 5, none⟩ = some (.int .u32 0) := HZ8.out.cell rfl
      have z6 : w8.cell? ⟨w7.heap.size, 6, none⟩ = some (.int .i64 0) := HZ8.out.cell rfl
      have z7 : w8.cell? ⟨w7.heap.size, 7, none⟩ = some (.int .i64 0) := HZ8.out.cell rfl
      have z8 : w8.cell? ⟨w7.heap.size, 8, none⟩ = some (.int .i64 0) := HZ8.out.cell rfl
      have z9 : w8.cell? ⟨w7.heap.size, 9, none⟩ = some (.int .i64 0) := HZ8.out.cell rfl
      have z10 : w8.cell? ⟨w7.heap.size, 10, none⟩ = some (.slice R7 0 d7) := HZ8.out.cell rfl
      go_wp2_with fail
      refine (HSM.out w8 R7 d7).mono ?_
      rintro e w9 ⟨rfl, hb9⟩
      have HB9 := Lib.hid (ext_trans HB8.out hb9)
      clear hb9 HB8
      go_wp2_with fail
      refine (awake_calls _).mono ?_
      rintro e w10 ⟨rfl, hb10⟩
      have HB10 := Lib.hid (ext_trans HB9.out hb10)
      clear hb10
      go_wp2
      go_ret
      exact ⟨rfl, HB10.out⟩
    · have hok' : okN p n = false := by simpa using hok
      have HPT : Hid (∀ W : World, Calls Try.prog 14 #[.agg (p.cs A n c).toArray] W fun e w' => e = .returned (.tuple #[.slice none 0 0, .int .i64 40]) ∧ Below W.heap.size W w') := Lib.hid fun W => put_bad p A n c W hok'
      clear hok hok' h hin hn hc
      obtain ⟨src, dst, sp, dp, seq, ack, fl, wn, pr, og, data⟩ := p
      simp only [Pk.cs] at HPT ⊢
      go_enter Try.func4, Try.ntmps4
      go_wp2_with fail
      refine (HPT.out _).mono ?_
      rintro e w5 ⟨rfl, hb3⟩
      have HB5 := Lib.hid (ext_trans (ext_alloc _ _) hb3)
      clear hb3
      go_wp2_with fail
      refine (awake_calls _).mono ?_
      rintro e w10 ⟨rfl, hb10⟩
      have HB10 := Lib.hid (ext_trans HB5.out hb10)
      clear hb10
      go_wp2
      go_ret
      exact ⟨rfl, HB10.out⟩
end Go.Proofs.Ytobkelpeenckeaa
