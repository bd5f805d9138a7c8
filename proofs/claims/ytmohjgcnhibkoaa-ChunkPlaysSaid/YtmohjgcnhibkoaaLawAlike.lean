/- The walk of the law ChunkAlike. -/
import Derived.Test.YtmohjgcnhibkoaaChunkD
namespace Go.Proofs.Ytmohjgcnhibkoaa
open Go.RowKit
set_option linter.unusedVariables false

theorem u64_some' (x : Int) : ∃ n : Nat, IntKind.u64.wrap x = n ∧ n < 18446744073709551616 := by
  have h : IntKind.u64.wrap x = x % 18446744073709551616 := by simp [IntKind.wrap, IntKind.bits, IntKind.signed]
  exact ⟨(x % 18446744073709551616).toNat, by rw [h]; omega, by omega⟩
theorem tmod_nat' (n m : Nat) : ((n : Int).tmod (m : Int)) = ((n % m : Nat) : Int) := by rw [Int.tmod_eq_emod_of_nonneg (by omega)]; rfl
theorem OutIs.mono {D D' : Nat} {w : World} {vo v : Value} {ls : List (List UInt8)} (h : OutIs D w vo v ls) (hd : D' ≤ D) : OutIs D' w vo v ls := by
  obtain ⟨vs, a, b, c⟩ := h
  exact ⟨vs, ⟨a.1, a.2.imp id fun ⟨g, cap, cur, x, y, z⟩ => ⟨g, cap, cur, x, Nat.le_trans hd y, z⟩⟩, b, fun i u hu => ⟨(c i u hu).1.mono hd, (c i u hu).2⟩⟩
theorem OutIs.rbb' {D : Nat} {w : World} {A : Option Addr} {n c : Nat} {v : Value} {ls : List (List UInt8)} (h : OutIs D w (.slice A n c) v ls) : RBB w A ls := by
  obtain ⟨A', c', e, _, hr⟩ := h.rbb
  injection e with ea _ _
  subst ea
  exact hr
theorem concat_n (A : Option Addr) (c n : Nat) (ls : List (List UInt8)) (hn : ls.length = n) (w : World) (h : RBB w A ls) (hn2 : n ≤ 100000) (F : List UInt8) (hF : ls.flatten = F) (htot : F.length ≤ 100000) :
    Calls Try.prog 24 #[.slice A n c] w fun e w' => ∃ v, e = .returned v ∧ OwnB w.heap.size 5 w' v F ∧ Below w.heap.size w w' := by
  subst hn
  have e : catTo ls ls.length = F := by rw [catTo_flat _ _ (Nat.le_refl _), List.take_length, hF]
  have := concat_calls A c ls w h (by omega) (by rw [e]; omega)
  rw [e] at this
  exact this
theorem all_n (g q : Nat) (hq : bl q = 32) (w : World) (hT : TabIs w g q) (A : Option Addr) (c n : Nat) (l : List UInt8) (hn : l.length = n) (hr : RB w A l) (hA : 0 < n → Off g A) (hl : n ≤ 100000) :
    Calls Try.prog 14 #[.pointer (some ⟨g, 0, none⟩), .slice A n c] w fun e w' => ∃ vo, e = .returned vo ∧ OutIs w.heap.size w' vo (.slice none 0 0) (allN q l) ∧ TabFull w' g q ∧ w.grownBy w' (some g) := by
  subst hn
  exact all_calls g q hq w hT A c l hr hA hl

set_option maxRecDepth 100000 in
set_option maxHeartbeats 4000000 in
theorem alike_walk (w : World) (p : Nat) (hp : p ≤ 18446744073709551615) (A : Option Addr) (c : Nat) (l : List UInt8) (h : RB w A l) (hc : l.length ≤ c) (hl : l.length ≤ 140737488351232) (at_ : Int) (ha0 : -9223372036854775808 ≤ at_) (ha1 : at_ ≤ 9223372036854775807) :
    Calls Try.prog 9 #[.int .u64 (p : Int), .slice A l.length c, .int .i64 at_] w fun e w' => e = .returned (.bool true) ∧ Below w.heap.size w w' := by
  have HP := Lib.hid (U64.of hp)
  have H := Lib.hid h
  clear hp h
  by_cases hs : 8192 < l.length
  · go_enter Try.func9, Try.ntmps9
    go_wp2_with fail
    refine (awake_calls w).mono ?_
    rintro e w2 ⟨rfl, hb⟩
    have HB := Lib.hid hb
    clear hb
    go_wp2
    go_ret
    exact ⟨rfl, HB.out⟩
  · go_enter Try.func9, Try.ntmps9
    go_wp2_with fail
    refine (table_calls p HP.out w).mono ?_
    rintro e w1 ⟨g, rfl, ht, hg, hb⟩
    have hq := tabP_bl p
    generalize tabP p = q at *
    have HQ := Lib.hid hq
    have HT := Lib.hid ht
    have HB := Lib.hid hb
    have HR := Lib.hid (H.out.ext hb)
    have HOFF := Lib.hid (fun h0 => H.out.off hg h0)
    clear hq ht hb
    go_wp2_with fail
    refine (all_calls g q HQ.out w1 HT.out A c l HR.out HOFF.out (by omega)).mono ?_
    rintro e w2 ⟨vo, rfl, hO, ht2, hg2⟩
    obtain ⟨A2, c2, rfl, hc2, hrbb⟩ := hO.rbb
    have hfew := (allN_few q l).1
    have hflat := allN_flat q l
    have hbeh := all_behind q l
    have hbef := all_before q l
    obtain ⟨ls, hls⟩ : ∃ ls, allN q l = ls := ⟨_, rfl⟩
    rw [hls] at hO hc2 hrbb hfew hflat hbeh hbef ⊢
    obtain ⟨n, hn⟩ : ∃ n, ls.length = n := ⟨_, rfl⟩
    rw [hn] at hO hc2 hfew ⊢
    have HO2 := Lib.hid hO
    have HT2 := Lib.hid ht2
    have HB2 : Hid (Below w.heap.size w w2) := Lib.hid (below_grown HB.out hg2 HB.out.size hg)
    have HR2 := Lib.hid (HR.out.grown hg2 HOFF.out)
    have HRBB := Lib.hid hrbb
    have HFL := Lib.hid hflat
    have HBEH := Lib.hid hbeh
    have HBEF := Lib.hid hbef
    have HN := Lib.hid hn
    have hn1000 : n ≤ 1000 := by omega
    have hszw : w.heap.size ≤ w1.heap.size := HB.out.size
    clear hO ht2 hg2 hrbb hflat hbeh hbef hls hn hfew HR HT HB
    by_cases h0 : n = 0
    · subst h0
      have hl0 : l.length = 0 := by
        have := HFL.out
        rw [List.eq_nil_of_length_eq_zero HN.out] at this
        rw [← this]
        rfl
      obtain ⟨m, hm⟩ : ∃ m, l.length = m := ⟨_, rfl⟩
      rw [hm] at hl0 hc hl hs ⊢
      subst hl0
      clear hm
      go_wp2_with fail
      refine (awake_calls w2).mono ?_
      rintro e w3 ⟨rfl, hb⟩
      have HB3 := Lib.hid (HB2.out.trans (hb.mono HB2.out.size))
      clear hb
      go_wp2
      go_ret
      exact ⟨rfl, HB3.out⟩
    · have d0 : ((n : Int) == 0) = false := beq_eq_false_iff_ne.2 (by omega)
      obtain ⟨x, hx, _⟩ := u64_some' at_
      obtain ⟨j, hj, hj1⟩ : ∃ j : Nat, (x : Int).tmod (n : Int) = j ∧ j < n := ⟨x % n, tmod_nat' x n, Nat.mod_lt _ (by omega)⟩
      obtain ⟨b2, o2, _, _, hA2, _, _, _⟩ := HRBB.out 0 (by rw [HN.out]; omega)
      subst hA2
      have htl : (ls.take j).length = j := by rw [List.length_take, HN.out]; omega
      have hdl : (ls.drop j).length = n - j := by rw [List.length_drop, HN.out]
      have hbf := HBEF.out j (by rw [HN.out]; exact hj1)
      have hbh := HBEH.out j (by rw [HN.out]; exact hj1)
      obtain ⟨F, hF⟩ : ∃ F, (ls.take j).flatten = F := ⟨_, rfl⟩
      obtain ⟨m, hm⟩ : ∃ m, F.length = m := ⟨_, rfl⟩
      rw [hF, hm] at hbf hbh
      have HTL := Lib.hid htl
      have HDL := Lib.hid hdl
      have HBH := Lib.hid hbh
      have HF := Lib.hid hF
      have HM := Lib.hid hm
      obtain ⟨b1, o1, hA1, _⟩ := HR2.out 0 (by omega)
      subst hA1
      have hgb : b1 ≠ g := HOFF.out (by omega) b1 o1 rfl
      clear htl hdl hbh hF hm h0
      go_wp2_with fail
      refine (concat_n (some ⟨b2, o2, none⟩) c2 j (ls.take j) HTL.out w2 (HRBB.out.take j) (by omega) F HF.out (by rw [HM.out]; omega)).mono ?_
      rintro e w3 ⟨v, rfl, ho3, hb3⟩
      obtain ⟨A3, c3, rfl, _, _, _⟩ := ho3.form
      rw [HM.out]
      have HO3 := Lib.hid (HO2.out.ext hb3)
      have HT3 := Lib.hid (HT2.out.ext hb3)
      have HR3 := Lib.hid ((HR2.out.ext hb3).drop m)
      have HB3 := Lib.hid (HB2.out.trans (hb3.mono HB2.out.size))
      have HLD : Hid ((l.drop m).length = l.length - m) := Lib.hid List.length_drop
      clear ho3 hb3 HO2 HT2 HR2 HB2 HRBB
      have hd : Below w3.heap.size w3 w3.drew := (Below.refl _ _).drew
      have HO3d := Lib.hid (HO3.out.ext hd)
      have HB3d := Lib.hid (HB3.out.drew)
      have hsz3 : w.heap.size ≤ w3.drew.heap.size := HB3.out.drew.size
      clear hd
      go_wp2_with fail
      go_region_with (first
        | (go_at_call 14; refine (all_n g q HQ.out _ ?_ (some ⟨b1, o1 + m, none⟩) (c - m) (l.length - m) (l.drop m) HLD.out ?_ ?_ ?_).mono ?_; exact HT3.out.is; exact HR3.out; exact (fun _ b o e => by cases e; exact hgb); omega; rintro e w5 ⟨vo5, rfl, hO5, ht5, hg5⟩; rw [HBH.out] at hO5; obtain ⟨A5, c5, hv5, hc5, hr5⟩ := hO5.rbb; rw [HDL.out] at hv5 hc5; subst hv5; have HR5 := Lib.hid hr5; have HX5 := Lib.hid ((HO3d.out.bk HT3.out hg5 (by decide) (by decide)).rbb'.drop j); have HB5 := Lib.hid (below_grown HB3d.out hg5 hsz3 hg); clear hO5 ht5 hg5 hr5)
        | (go_at_call 22; refine (same_calls A5 (some ⟨b2, o2 + j, none⟩) c5 (c2 - j) (n - j) (n - j) (ls.drop j) (ls.drop j) HDL.out HDL.out _ HR5.out HX5.out ?_ ?_).mono ?_; omega; omega; rintro e w6 ⟨rfl, rfl⟩; rw [show (ls.drop j == ls.drop j) = true from by simp])
        | (go_at_call 12; refine (awake_calls _).mono ?_; rintro e w7 ⟨rfl, hb7⟩; have HB7 := Lib.hid (HB5.out.trans (hb7.mono HB5.out.size)); clear hb7))
      all_goals
        go_wp2
        go_ret
        exact ⟨rfl, HB7.out⟩
end Go.Proofs.Ytmohjgcnhibkoaa
