/- chunk: All; the example awake: the walks. -/
import Derived.Test.YtmohjgcnhibkoaaChunkB
namespace Go.Proofs.Ytmohjgcnhibkoaa
open Go.RowKit
set_option linter.unusedVariables false

/-- All chunks. -/
def allN (q : Nat) (l : List UInt8) : List (List UInt8) := (cutS q [] l).1 ++ (if (cutS q [] l).2 = [] then [] else [(cutS q [] l).2])
theorem OutIs.rbb {D : Nat} {w : World} {vo v : Value} {ls : List (List UInt8)} (h : OutIs D w vo v ls) : ∃ A c, vo = .slice A ls.length c ∧ ls.length ≤ c ∧ RBB w A ls := by
  obtain ⟨vs, a, b, c⟩ := h
  have ha := a
  rcases a.2 with ⟨rfl, h0⟩ | ⟨g, cap, cur, rfl, hb, hh, hc, hm, _⟩
  · refine ⟨none, 0, by rw [h0], by omega, fun i hi => by omega⟩
  · refine ⟨some ⟨g, 0, none⟩, cap, rfl, hc, fun i hi => ?_⟩
    obtain ⟨u, hu⟩ : ∃ u, vs[i]? = some u := ⟨vs[i], List.getElem?_eq_getElem (by omega)⟩
    obtain ⟨c1, c2⟩ := c i u hu
    obtain ⟨A', c', e, hr, hc', _⟩ := c1.form
    have hcell := ha.cells (g := g) rfl i u hu
    rw [show (⟨g, 0, none⟩ : Addr).add i = ⟨g, 0 + i, none⟩ by unfold Addr.add; split <;> simp_all] at hcell
    rw [e] at hcell
    exact ⟨g, 0, A', c', rfl, hcell, hr, hc'⟩
theorem grown_chg {w w1 w2 : World} {row : Option Nat} {S : List Nat} (h : w.grownBy w1 row) (k : Chg w1 w2 S) (hS : ∀ x ∈ S, w.heap.size ≤ x) : w.grownBy w2 row :=
  ⟨k.os.trans h.os, k.tape.trans h.tape, k.output.trans h.output, Nat.le_trans h.size k.size, fun i hi hr => (k.block i (Nat.lt_of_lt_of_le hi h.size) (fun e => by have := hS i e; omega)).trans (h.block i hi hr)⟩
theorem all_nil (A : Option Addr) (n c : Nat) (w : World) : Calls Try.prog 14 #[.pointer none, .slice A n c] w fun e w' => e = .returned (.slice none 0 0) ∧ w = w' := by
  go_enter Try.func14, Try.ntmps14
  go_wp2_with fail
  refine (cnew_nil w).mono ?_
  rintro e w' ⟨rfl, rfl⟩
  go_wp2_with fail
  refine (write_nil _ _ _ w).mono ?_
  rintro e w' ⟨rfl, rfl⟩
  go_wp2_with fail
  refine (flush_nil w).mono ?_
  rintro e w' ⟨rfl, rfl⟩
  go_wp2
  go_ret
  exact ⟨rfl, rfl⟩

set_option maxRecDepth 100000 in
set_option maxHeartbeats 2000000 in
theorem all_calls (g q : Nat) (hq : bl q = 32) (w : World) (hT : TabIs w g q) (A : Option Addr) (c : Nat) (l : List UInt8) (hr : RB w A l) (hA : 0 < l.length → Off g A) (hl : l.length ≤ 100000) :
    Calls Try.prog 14 #[.pointer (some ⟨g, 0, none⟩), .slice A l.length c] w fun e w' => ∃ vo, e = .returned vo ∧ OutIs w.heap.size w' vo (.slice none 0 0) (allN q l) ∧ TabFull w' g q ∧ w.grownBy w' (some g) := by
  have HT := Lib.hid hT
  have HQ := Lib.hid hq
  have HR := Lib.hid hr
  have HA := Lib.hid hA
  clear hT hq hr hA
  go_enter Try.func14, Try.ntmps14
  go_wp2_with fail
  refine (cnew_calls w.heap.size g q HQ.out w HT.out).mono ?_
  rintro e w1 ⟨k, r, rfl, hk, hr, hC, hG⟩
  have HC := Lib.hid hC
  have HG := Lib.hid hG
  have HR1 := Lib.hid (HR.out.grown hG HA.out)
  have hsz := hG.size
  have hAo : 0 < l.length → ∀ b o, A = some ⟨b, o, none⟩ → b ∉ own k r (.slice none 0 0) := fun h0 b o e => by
    obtain ⟨b', o', e', hc'⟩ := HR.out 0 h0
    have hb : b' < w.heap.size := World.block_lt_of_cell? w _ hc'
    rw [e'] at e
    injection e with e
    injection e with e1 _ _
    rw [← e1]
    simp [own, Value.ownBlock]
    omega
  have HAO := Lib.hid hAo
  clear hC hG hAo
  go_wp2_with fail
  refine (write_calls (P := []) HQ.out HC.out (by simp) hsz A c l HR1.out HAO.out hl).mono ?_
  rintro e w2 ⟨vo, v1, rfl, hO2, hC2, hG2, _⟩
  obtain ⟨outs, houts⟩ : ∃ s, (cutS q [] l).1 = s := ⟨_, rfl⟩
  obtain ⟨rest, hrest⟩ : ∃ s, (cutS q [] l).2 = s := ⟨_, rfl⟩
  have hlt := cutS_lt q [] l (by simp)
  have hcnt := cutS_count q [] l
  have hall : allN q l = outs ++ (if rest = [] then [] else [rest]) := by unfold allN; rw [houts, hrest]
  rw [houts] at hO2 hcnt
  rw [hrest] at hC2 hlt
  have HALL := Lib.hid hall
  have hg2 := grown_chg HG.out hG2 (fun x hx => by simp [own, Value.ownBlock] at hx; omega)
  have HG2 := Lib.hid hg2
  have HO2 : Hid (OutIs w.heap.size w2 vo v1 outs) := Lib.hid (by
    obtain ⟨vs, a, b, c'⟩ := hO2
    exact ⟨vs, ⟨a.1, a.2.imp id fun ⟨g, cap, cur, x, y, z⟩ => ⟨g, cap, cur, x, Nat.le_trans hsz y, z⟩⟩, b, fun i u hu => ⟨(c' i u hu).1.mono hsz, (c' i u hu).2⟩⟩)
  have HC2 := Lib.hid hC2
  clear hO2 hC2 hG2 hg2 hall houts hrest HC HG HR1 HAO
  go_wp2_with fail
  refine (flush_calls HC2.out (by omega)).mono ?_
  rintro e w3 ⟨u, rfl, hu, hC3, hG3⟩
  have hO3 := (HO2.out.swap (v' := .slice none 0 0) (.inr (.inl rfl))).bk HC2.out.c hG3 (by decide) (by decide)
  have hu3 := hu.mono HG2.out.size
  obtain ⟨Au, cu, hvu, _, _, _⟩ := hu3.form
  obtain ⟨n, hn⟩ : ∃ n, rest.length = n := ⟨_, rfl⟩
  rw [hn] at hvu hlt
  subst hvu
  have hg3 : w.grownBy w3 (some g) := ⟨hG3.os.trans HG2.out.os, hG3.tape.trans HG2.out.tape, hG3.output.trans HG2.out.output, Nat.le_trans HG2.out.size hG3.size, fun i hi hne => (hG3.block i (Nat.lt_of_lt_of_le hi HG2.out.size) (fun e => by cases e; omega)).trans (HG2.out.block i hi hne)⟩
  have HU3 := Lib.hid hu3
  have HO3 := Lib.hid hO3
  have HC3 := Lib.hid hC3
  have HG3 := Lib.hid hg3
  have HN := Lib.hid hn
  have hs3 := hg3.size
  clear hu hu3 hO3 hC3 hG3 hg3 HC2 HO2 HG2 hn
  by_cases h0 : n = 0
  · subst h0
    have HE : Hid (allN q l = outs) := Lib.hid (by rw [HALL.out, if_pos (List.eq_nil_of_length_eq_zero HN.out), List.append_nil])
    go_wp2
    go_ret
    exact ⟨vo, rfl, by rw [HE.out]; exact HO3.out, HC3.out.tab, HG3.out⟩
  · have HE : Hid (allN q l = outs ++ [rest]) := Lib.hid (by rw [HALL.out, if_neg (by intro e; have := HN.out; rw [e] at this; simp at this; omega)])
    have hn0 : 0 < n := by omega
    have hO6 := HO3.out.ext (ext_alloc w3 (.cells #[.slice Au n cu] 23))
    have hT6 := HC3.out.tab.ext (ext_alloc w3 (.cells #[.slice Au n cu] 23))
    have hU6 := HU3.out.ext (ext_alloc w3 (.cells #[.slice Au n cu] 23))
    obtain ⟨vs, a6, b6, c6⟩ := hO6
    have A6 := Lib.hid a6
    have B6 := Lib.hid b6
    have C6 := Lib.hid c6
    have HU6 := Lib.hid hU6
    have HT6 := Lib.hid hT6
    clear a6 b6 c6 hU6 hT6 HO3 HC3 HU3
    go_wp2_with (at_builtin; refine wpList_app rfl _ _ 28 rfl w.heap.size 23 (.slice none 0 0) 24 Try.underlying28 infoS rfl (by decide) vo outs.length vs rfl A6.out _ _ _ [.slice Au n cu] rfl rfl (RV.lit1 w3 _ _) (by simp [Value.oneCell']) (by omega) (by simp; omega) ?_)
    intro v7 w7 a7 hg7 hb7
    have hO7 := OutIs.push (v := .slice none 0 0) A6.out B6.out C6.out HU6.out (by cases Au <;> simp [Value.ownBlock]) a7 hg7
    have HO7 := Lib.hid hO7
    have HT7 : Hid (TabFull w7 g q) := Lib.hid (BK.same HT6.out (hg7.block g HT6.out.lt (Ne.symm (own_ne_bk A6.out HT6.out (by decide)))))
    have HG7 : Hid (w.grownBy w7 (some g)) := Lib.hid ⟨hg7.os.trans HG3.out.os, hg7.tape.trans HG3.out.tape, hg7.output.trans HG3.out.output, by have := hg7.size; simp at this; omega, fun i hi hne => (hg7.block i (by simp; omega) (fun e => by have := (A6.out.lt i e.symm).1; omega)).trans (((World.grownBy_alloc w3 _ none).block i (by omega) (by simp)).trans (HG3.out.block i hi hne))⟩
    clear hO7 a7 hg7 hb7
    go_wp2
    go_ret
    exact ⟨_, rfl, by rw [HE.out]; exact HO7.out, HT7.out, HG7.out⟩
theorem all_empty (g q : Nat) (hq : bl q = 32) (w : World) (hT : TabIs w g q) :
    Calls Try.prog 14 #[.pointer (some ⟨g, 0, none⟩), .slice none 0 0] w fun e w' => ∃ R c, e = .returned (.slice R 0 c) ∧ w.grownBy w' (some g) := by
  refine (all_calls g q hq w hT none 0 [] (RB.nil _ _) (fun h => by simp at h) (by simp)).mono ?_
  rintro e w' ⟨vo, rfl, hO, _, hg⟩
  have e0 : allN q [] = [] := rfl
  rw [e0] at hO
  obtain ⟨A, c, rfl, _, _⟩ := hO.rbb
  exact ⟨A, c, rfl, hg⟩

/-! ### noughts -/
theorem wnd_zeros (n : Nat) : wnd (List.replicate n 0) = zs16 := by
  unfold wnd zs16
  rw [List.replicate_append_replicate, List.length_replicate, List.drop_replicate, Nat.add_sub_cancel]
theorem ends_zeros (q n : Nat) : endsN q (List.replicate n 0) = decide (256 ≤ n) := by
  unfold endsN
  rw [wnd_zeros, pr_zs16, List.length_replicate]
  simp
theorem cut_zeros (q : Nat) : ∀ n, cutS q [] (List.replicate n 0) = (List.replicate (n / 256) (List.replicate 256 0), List.replicate (n % 256) 0) := by
  intro n
  induction n with
  | zero => rfl
  | succ n ih =>
    rw [List.replicate_succ', cutS_snoc, ih]
    unfold stepC
    have e : List.replicate (n % 256) (0 : UInt8) ++ [0] = List.replicate (n % 256 + 1) 0 := List.replicate_succ'.symm
    dsimp only
    rw [e, ends_zeros]
    by_cases h : 256 ≤ n % 256 + 1
    · rw [if_pos (by simpa using h), show (n + 1) / 256 = n / 256 + 1 by omega, show (n + 1) % 256 = 0 by omega, show n % 256 + 1 = 256 by omega]
      rw [List.replicate_succ' (n := n / 256)]
      rfl
    · rw [if_neg (by simpa using h), show (n + 1) / 256 = n / 256 by omega, show (n + 1) % 256 = n % 256 + 1 by omega]
theorem all_zeros (q : Nat) : allN q (List.replicate 600 0) = [List.replicate 256 0, List.replicate 256 0, List.replicate 88 0] := by
  unfold allN
  rw [cut_zeros]
  rfl

set_option maxRecDepth 100000 in
set_option maxHeartbeats 2000000 in
theorem awake_calls (w : World) : Calls Try.prog 12 #[] w fun e w' => e = .returned (.bool true) ∧ Below w.heap.size w w' := by
  go_enter Try.func12, Try.ntmps12
  go_wp2_with fail
  refine (table_calls 0 (U64.small (by decide)) w).mono ?_
  rintro e w1 ⟨g, rfl, ht, hg, hb⟩
  have hq := tabP_bl 0
  generalize tabP 0 = q at *
  have HQ := Lib.hid hq
  have HT := Lib.hid ht
  have HB := Lib.hid hb
  have hsz := hb.size
  clear hq ht hb
  go_wp2_with (at_make; refine wpList_makeFullB rfl _ _ 23 rfl w1.heap.size 5 Try.underlying23 infoB .i64 .i64 (600 : Int) (600 : Int) 600 rfl rfl rfl rfl (by omega) (Nat.le_refl _) ?_)
  intro w2 ho2 hg2
  obtain ⟨A, c, e1, hr2, _, _⟩ := ho2.form
  have hb2 : Below w1.heap.size w1 w2 := grown_none (Below.refl _ _) hg2 (Nat.le_refl _)
  have hA : A = some ⟨w1.heap.size, 0, none⟩ := by injection e1 with ea _ _; exact ea.symm
  subst hA
  have hgl : g < w1.heap.size := HT.out.lt
  have HT2 := Lib.hid (HT.out.ext hb2)
  have HR2 : Hid (RB w2 (some ⟨w1.heap.size, 0, none⟩) (List.replicate 600 0)) := Lib.hid hr2
  have HB2 := Lib.hid (ext_trans HB.out hb2)
  have hs2 := hb2.size
  have HZ := Lib.hid (all_zeros q)
  have hcall : Calls Try.prog 14 #[.pointer (some ⟨g, 0, none⟩), .slice (some ⟨w1.heap.size, 0, none⟩) 600 600] w2 fun e w' => ∃ vo, e = .returned vo ∧ OutIs w2.heap.size w' vo (.slice none 0 0) (allN q (List.replicate 600 0)) ∧ TabFull w' g q ∧ w2.grownBy w' (some g) := by
    have := all_calls g q HQ.out w2 HT2.out (some ⟨w1.heap.size, 0, none⟩) 600 (List.replicate 600 0) HR2.out (fun _ b o e => by cases e; omega) (by simp)
    rw [List.length_replicate] at this
    exact this
  have HCALL := Lib.hid hcall
  clear ho2 hg2 e1 hr2 hb2 hcall
  go_wp2_with fail
  refine HCALL.out.mono ?_
  rintro e w3 ⟨vo, rfl, hO, ht3, hg3⟩
  rw [HZ.out] at hO
  obtain ⟨A3, c3, rfl, hc3, hrbb⟩ := hO.rbb
  obtain ⟨b, o, A4, c4, rfl, k0, _, _⟩ := hrbb 0 (by simp)
  obtain ⟨b', o', A5, c5, e5, k2, _, _⟩ := hrbb 2 (by simp)
  cases e5
  have l0 : ([List.replicate 256 0, List.replicate 256 0, List.replicate 88 0] : List (List UInt8)).getD 0 [] = List.replicate 256 0 := rfl
  have l2 : ([List.replicate 256 0, List.replicate 256 0, List.replicate 88 0] : List (List UInt8)).getD 2 [] = List.replicate 88 0 := rfl
  rw [l0, List.length_replicate, Nat.add_zero] at k0
  rw [l2, List.length_replicate] at k2
  have hl3 : ([List.replicate 256 0, List.replicate 256 0, List.replicate 88 0] : List (List UInt8)).length = 3 := rfl
  rw [hl3] at hc3 ⊢
  have HT3 := Lib.hid ht3
  have HB3 : Hid (Below w.heap.size w w3) := Lib.hid (below_grown HB2.out hg3 HB2.out.size hg)
  clear hO ht3 hg3 hrbb l0 l2 hl3 HCALL HZ
  go_wp2_with fail
  refine (all_empty g q HQ.out w3 HT3.out.is).mono ?_
  rintro e w4 ⟨R, c6, rfl, hg4⟩
  have HB4 : Hid (Below w.heap.size w w4) := Lib.hid (below_grown HB3.out hg4 HB3.out.size hg)
  clear hg4 k0 k2
  go_wp2
  go_ret
  exact ⟨rfl, HB4.out⟩
end Go.Proofs.Ytmohjgcnhibkoaa
