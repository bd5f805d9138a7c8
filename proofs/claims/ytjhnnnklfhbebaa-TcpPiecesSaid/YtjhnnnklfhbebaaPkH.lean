/- packet: flumeref04.Same: the walk (printed by gensame.py). -/
import Derived.Test.YtjhnnnklfhbebaaPkG
namespace Go.Proofs.Ytjhnnnklfhbebaa
open Go.RowKit
set_option linter.unusedVariables false
set_option linter.unusedSimpArgs false

theorem refuse_n (p : Pk) (A : Option Addr) (n c : Nat) (hn : n ≤ 100000) (hseq : p.seq < 4294967296) (w : World) :
    Calls Try.prog 84 #[.agg (p.cs A n c).toArray] w fun e w' => e = .returned (.tuple #[.agg ((p.refuse n).1.cs none 0 0).toArray, .bool (p.refuse n).2]) ∧ Below w.heap.size w w' := by
  rcases fbit8 p.fl with h | h
  · refine (refuse_yes p A n c hn hseq h w).mono ?_
    rintro e w' ⟨rfl, hb⟩
    refine ⟨?_, hb⟩
    have h2 : (p.refuse n).2 = true := by unfold Pk.refuse; rw [if_pos h]
    rw [h2]
  · refine (refuse_no p A n c h w).mono ?_
    rintro e w' ⟨rfl, hb⟩
    refine ⟨?_, hb⟩
    unfold Pk.refuse
    rw [if_neg (by rw [h]; decide), ← zeroCs_cs]
theorem rrefuse_n (p : Pk) (A : Option Addr) (n c : Nat) (hn : n ≤ 100000) (hseq : p.seq < 4294967296) (w : World) :
    Calls Try.prog 87 #[.agg (p.cs A n c).toArray] w fun e w' => e = .returned (.tuple #[.agg ((p.refuse n).1.cs none 0 0).toArray, .bool (p.refuse n).2]) ∧ Below w.heap.size w w' := by
  rcases fbit8 p.fl with h | h
  · refine (rrefuse_yes p A n c hn hseq h w).mono ?_
    rintro e w' ⟨rfl, hb⟩
    refine ⟨?_, hb⟩
    have h2 : (p.refuse n).2 = true := by unfold Pk.refuse; rw [if_pos h]
    rw [h2]
  · refine (rrefuse_no p A n c h w).mono ?_
    rintro e w' ⟨rfl, hb⟩
    refine ⟨?_, hb⟩
    unfold Pk.refuse
    rw [if_neg (by rw [h]; decide), ← zeroCs_cs]
/-- Are two packets? -/
def sameP (p q : Pk) : Bool := decide (p.src = q.src ∧ p.dst = q.dst ∧ p.sp = q.sp ∧ p.dp = q.dp ∧ p.seq = q.seq ∧ p.ack = q.ack ∧ p.fl = q.fl ∧ p.wn = q.wn ∧ p.pr = q.pr ∧ p.og = q.og ∧ p.data = q.data)
theorem sameP_iff (p q : Pk) : sameP p q = true ↔ p = q := by
  obtain ⟨src, dst, sp, dp, seq, ack, fl, wn, pr, og, data⟩ := p
  obtain ⟨src2, dst2, sp2, dp2, seq2, ack2, fl2, wn2, pr2, og2, data2⟩ := q
  simp [sameP]
theorem sameP_self (p : Pk) : sameP p p = true := (sameP_iff p p).2 rfl
set_option maxRecDepth 100000 in
set_option maxHeartbeats 4000000 in
theorem same_n (p q : Pk) (A B : Option Addr) (n c m d : Nat) (hn : n = p.data.length) (hm : m = q.data.length) (w : World) (h : RB w A p.data) (k : RB w B q.data) :
    Calls Try.prog 25 #[.agg (p.cs A n c).toArray, .agg (q.cs B m d).toArray] w fun e w' => e = .returned (.bool (sameP p q)) ∧ Below w.heap.size w w' := by
  obtain ⟨src, dst, sp, dp, seq, ack, fl, wn, pr, og, data⟩ := p
  obtain ⟨src2, dst2, sp2, dp2, seq2, ack2, fl2, wn2, pr2, og2, data2⟩ := q
  dsimp only at h k hn hm
  obtain ⟨E, hE⟩ : ∃ E, sameP ⟨src, dst, sp, dp, seq, ack, fl, wn, pr, og, data⟩ ⟨src2, dst2, sp2, dp2, seq2, ack2, fl2, wn2, pr2, og2, data2⟩ = E := ⟨_, rfl⟩
  rw [hE]
  have HE := Lib.hid hE
  clear hE
  simp only [Pk.cs]
  have HB1 : Hid (Below w.heap.size w ((w.alloc (.cells #[.int .i64 src, .int .i64 dst, .int .i64 sp, .int .i64 dp, .int .u32 (seq : Int), .int .u32 (ack : Int), .int .i64 fl, .int .i64 wn, .int .i64 pr, .int .i64 og, .slice A n c] 32)).alloc (.cells #[.int .i64 src2, .int .i64 dst2, .int .i64 sp2, .int .i64 dp2, .int .u32 (seq2 : Int), .int .u32 (ack2 : Int), .int .i64 fl2, .int .i64 wn2, .int .i64 pr2, .int .i64 og2, .slice B m d] 32))) := Lib.hid (((Below.refl _ _).alloc (Nat.le_refl _) _).alloc (by simp) _)
  have kv1 := conv_str (P := Try.prog) Try.underlying30 Try.underlying5 Try.underlying9 (h.ext HB1.out) n c hn
  have kv2 := conv_str (P := Try.prog) Try.underlying30 Try.underlying5 Try.underlying9 (k.ext HB1.out) m d hm
  have KV1 := Lib.hid kv1
  have KV2 := Lib.hid kv2
  clear h k kv1 kv2
  by_cases h0 : src = src2
  · subst h0
    by_cases h1 : dst = dst2
    · subst h1
      by_cases h2 : sp = sp2
      · subst h2
        by_cases h3 : dp = dp2
        · subst h3
          by_cases h4 : seq = seq2
          · subst h4
            by_cases h5 : ack = ack2
            · subst h5
              by_cases h6 : fl = fl2
              · subst h6
                by_cases h7 : wn = wn2
                · subst h7
                  by_cases h8 : pr = pr2
                  · subst h8
                    by_cases h9 : og = og2
                    · subst h9
                      by_cases hd : data = data2
                      · have HE2 : Hid (E = true) := Lib.hid (by rw [← HE.out]; simp [sameP, hd])
                        have kv1 := KV1.out
                        have kv2 := KV2.out
                        rw [hd] at kv1
                        clear hd hn hm
                        go_enter Try.func25, Try.ntmps25
                        go_wp2_with fail
                        go_ret
                        exact ⟨by rw [HE2.out]; rfl, HB1.out⟩
                      · have HE2 : Hid (E = false) := Lib.hid (by rw [← HE.out]; simp [sameP, hd])
                        have kv1 := KV1.out
                        have kv2 := KV2.out
                        have hd2 : ((strB data).toList == (strB data2).toList) = false := by rw [strB_toList, strB_toList]; exact beq_eq_false_iff_ne.2 hd
                        clear hd hn hm
                        go_enter Try.func25, Try.ntmps25
                        go_wp2_with fail
                        go_ret
                        exact ⟨by rw [HE2.out]; rfl, HB1.out⟩
                    · have HE2 : Hid (E = false) := Lib.hid (by rw [← HE.out]; simp [sameP, h9])
                      have e9 : (og == og2) = false := beq_eq_false_iff_ne.2 h9
                      clear h9 hn hm
                      go_enter Try.func25, Try.ntmps25
                      go_wp2_with fail
                      go_ret
                      exact ⟨by rw [HE2.out]; rfl, HB1.out⟩
                  · have HE2 : Hid (E = false) := Lib.hid (by rw [← HE.out]; simp [sameP, h8])
                    have e8 : (pr == pr2) = false := beq_eq_false_iff_ne.2 h8
                    clear h8 hn hm
                    go_enter Try.func25, Try.ntmps25
                    go_wp2_with fail
                    go_ret
                    exact ⟨by rw [HE2.out]; rfl, HB1.out⟩
                · have HE2 : Hid (E = false) := Lib.hid (by rw [← HE.out]; simp [sameP, h7])
                  have e7 : (wn == wn2) = false := beq_eq_false_iff_ne.2 h7
                  clear h7 hn hm
                  go_enter Try.func25, Try.ntmps25
                  go_wp2_with fail
                  go_ret
                  exact ⟨by rw [HE2.out]; rfl, HB1.out⟩
              · have HE2 : Hid (E = false) := Lib.hid (by rw [← HE.out]; simp [sameP, h6])
                have e6 : (fl == fl2) = false := beq_eq_false_iff_ne.2 h6
                clear h6 hn hm
                go_enter Try.func25, Try.ntmps25
                go_wp2_with fail
                go_ret
                exact ⟨by rw [HE2.out]; rfl, HB1.out⟩
            · have HE2 : Hid (E = false) := Lib.hid (by rw [← HE.out]; simp [sameP, h5])
              have e5 : ((ack : Int) == (ack2 : Int)) = false := beq_eq_false_iff_ne.2 (by omega)
              clear h5 hn hm
              go_enter Try.func25, Try.ntmps25
              go_wp2_with fail
              go_ret
              exact ⟨by rw [HE2.out]; rfl, HB1.out⟩
          · have HE2 : Hid (E = false) := Lib.hid (by rw [← HE.out]; simp [sameP, h4])
            have e4 : ((seq : Int) == (seq2 : Int)) = false := beq_eq_false_iff_ne.2 (by omega)
            clear h4 hn hm
            go_enter Try.func25, Try.ntmps25
            go_wp2_with fail
            go_ret
            exact ⟨by rw [HE2.out]; rfl, HB1.out⟩
        · have HE2 : Hid (E = false) := Lib.hid (by rw [← HE.out]; simp [sameP, h3])
          have e3 : (dp == dp2) = false := beq_eq_false_iff_ne.2 h3
          clear h3 hn hm
          go_enter Try.func25, Try.ntmps25
          go_wp2_with fail
          go_ret
          exact ⟨by rw [HE2.out]; rfl, HB1.out⟩
      · have HE2 : Hid (E = false) := Lib.hid (by rw [← HE.out]; simp [sameP, h2])
        have e2 : (sp == sp2) = false := beq_eq_false_iff_ne.2 h2
        clear h2 hn hm
        go_enter Try.func25, Try.ntmps25
        go_wp2_with fail
        go_ret
        exact ⟨by rw [HE2.out]; rfl, HB1.out⟩
    · have HE2 : Hid (E = false) := Lib.hid (by rw [← HE.out]; simp [sameP, h1])
      have e1 : (dst == dst2) = false := beq_eq_false_iff_ne.2 h1
      clear h1 hn hm
      go_enter Try.func25, Try.ntmps25
      go_wp2_with fail
      go_ret
      exact ⟨by rw [HE2.out]; rfl, HB1.out⟩
  · have HE2 : Hid (E = false) := Lib.hid (by rw [← HE.out]; simp [sameP, h0])
    have e0 : (src == src2) = false := beq_eq_false_iff_ne.2 h0
    clear h0 hn hm
    go_enter Try.func25, Try.ntmps25
    go_wp2_with fail
    go_ret
    exact ⟨by rw [HE2.out]; rfl, HB1.out⟩
end Go.Proofs.Ytjhnnnklfhbebaa
