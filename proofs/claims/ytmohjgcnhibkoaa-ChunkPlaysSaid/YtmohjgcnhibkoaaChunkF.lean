/- flumeref06: Cut: the walk. -/
import Derived.Test.YtmohjgcnhibkoaaChunkE
import Derived.Test.YtmohjgcnhibkoaaLawCPieces
namespace Go.Proofs.Ytmohjgcnhibkoaa
open Go.RowKit
set_option linter.unusedVariables false

def lenV : Value → Nat
  | .slice _ m _ => m
  | _ => 0
/-- A list of slices in memory of its own, from D on; the slices themselves read memory below D. -/
def OutR (D : Nat) (w : World) (vo : Value) (ls : List (List UInt8)) : Prop :=
  ∃ vs : List Value, w.ownsRow D 23 1 vo ls.length vs ∧ vs.length = ls.length ∧ ∀ i u, vs[i]? = some u → ∃ A' c', u = .slice A' (ls.getD i []).length c' ∧ RB w A' (ls.getD i []) ∧ (ls.getD i []).length ≤ c' ∧ (0 < (ls.getD i []).length → ∀ b o, A' = some ⟨b, o, none⟩ → b < D)
theorem OutR.nil (D : Nat) (w : World) : OutR D w (.slice none 0 0) [] := ⟨[], World.ownsRow_nil _ _ _ _, rfl, fun i u h => by simp at h⟩
theorem OutR.ext {D : Nat} {w w' : World} {vo : Value} {ls : List (List UInt8)} (h : OutR D w vo ls) (e : Below w.heap.size w w') : OutR D w' vo ls := by
  obtain ⟨vs, a, b, c⟩ := h
  refine ⟨vs, a.kept (grown_of_below e none) (by cases vo.ownBlock <;> simp), b, fun i u hu => ?_⟩
  obtain ⟨A', c', e1, hr, hc, hb⟩ := c i u hu
  exact ⟨A', c', e1, hr.ext e, hc, hb⟩
theorem OutR.rbb {D : Nat} {w : World} {vo : Value} {ls : List (List UInt8)} (h : OutR D w vo ls) : ∃ A c, vo = .slice A ls.length c ∧ ls.length ≤ c ∧ RBB w A ls := by
  obtain ⟨vs, a, b, c⟩ := h
  have ha := a
  rcases a.2 with ⟨rfl, h0⟩ | ⟨g, cap, cur, rfl, hb, hh, hc, hm, _⟩
  · refine ⟨none, 0, by rw [h0], by omega, fun i hi => by omega⟩
  · refine ⟨some ⟨g, 0, none⟩, cap, rfl, hc, fun i hi => ?_⟩
    obtain ⟨u, hu⟩ : ∃ u, vs[i]? = some u := ⟨vs[i], List.getElem?_eq_getElem (by omega)⟩
    obtain ⟨A', c', e, hr, hc', _⟩ := c i u hu
    have hcell := ha.cells (g := g) rfl i u hu
    rw [show (⟨g, 0, none⟩ : Addr).add i = ⟨g, 0 + i, none⟩ by unfold Addr.add; split <;> simp_all] at hcell
    rw [e] at hcell
    exact ⟨g, 0, A', c', rfl, hcell, hr, hc'⟩
theorem OutR.push {D : Nat} {w w' : World} {vo vo' : Value} {ls : List (List UInt8)} {vs : List Value} {l : List UInt8} {A' : Option Addr} {c' n : Nat} (a : w.ownsRow D 23 1 vo ls.length vs) (b : vs.length = ls.length)
    (c : ∀ i u, vs[i]? = some u → ∃ A' c', u = .slice A' (ls.getD i []).length c' ∧ RB w A' (ls.getD i []) ∧ (ls.getD i []).length ≤ c' ∧ (0 < (ls.getD i []).length → ∀ b o, A' = some ⟨b, o, none⟩ → b < D))
    (hn : l.length = n) (hr : RB w A' l) (hc : n ≤ c') (hb : 0 < n → ∀ b o, A' = some ⟨b, o, none⟩ → b < D) (a' : w'.ownsRow D 23 1 vo' (ls.length + 1) (vs ++ [.slice A' n c'])) (e : w.grownBy w' vo.ownBlock) : OutR D w' vo' (ls ++ [l]) := by
  have kept : ∀ (R : Option Addr) (m : List UInt8), RB w R m → (0 < m.length → ∀ b o, R = some ⟨b, o, none⟩ → b < D) → RB w' R m := fun R m h1 h2 i hi => by
    obtain ⟨b0, o0, rfl, hcell⟩ := h1 i hi
    have hlt := h2 (by omega) b0 o0 rfl
    exact ⟨b0, o0, rfl, (World.cell?_of_block (e.block b0 (World.block_lt_of_cell? w _ hcell) (fun k => by have := (a.lt b0 k.symm).1; omega))).trans hcell⟩
  refine ⟨vs ++ [.slice A' n c'], by simpa using a', by simp [b], fun i x hx => ?_⟩
  by_cases hi : i < vs.length
  · rw [List.getElem?_append_left hi] at hx
    obtain ⟨A2, c2, e2, hr2, hc2, hb2⟩ := c i x hx
    have eg : (ls ++ [l]).getD i [] = ls.getD i [] := by rw [List.getD_eq_getElem?_getD, List.getElem?_append_left (by omega), ← List.getD_eq_getElem?_getD]
    rw [eg]
    exact ⟨A2, c2, e2, kept _ _ hr2 hb2, hc2, hb2⟩
  · have hx2 := (List.getElem?_eq_some_iff.1 hx).1
    obtain rfl : i = vs.length := by simp at hx2; omega
    rw [List.getElem?_append_right (Nat.le_refl _), Nat.sub_self] at hx
    obtain rfl : Value.slice A' n c' = x := by simpa using hx
    have eg : (ls ++ [l]).getD vs.length [] = l := by rw [b, List.getD_eq_getElem?_getD, List.getElem?_append_right (Nat.le_refl _), Nat.sub_self]; rfl
    rw [eg]
    subst hn
    exact ⟨A', c', rfl, kept _ _ hr hb, hc, hb⟩

set_option maxRecDepth 100000 in
set_option maxHeartbeats 2000000 in
theorem rcut_at (p : Nat) (hp : bl p = 32) (F : Nat → Prop) (A : Option Addr) (c : Nat) (l : List UInt8) (w : World) (h : RB w A l) (hc : l.length ≤ c) (hl : l.length ≤ 100000) (hF : 0 < l.length → ∀ b o, A = some ⟨b, o, none⟩ → F b) :
    Calls Try.prog 20 #[.int .u64 (p : Int), .slice A l.length c] w fun e w' => ∃ vo R nr cr, e = .returned (.tuple #[vo, .slice R nr cr]) ∧ OutR w.heap.size w' vo (cutS p [] l).1 ∧ RB w' R (cutS p [] l).2 ∧ (cutS p [] l).2.length = nr ∧ nr ≤ cr ∧ (0 < nr → ∀ b o, R = some ⟨b, o, none⟩ → b < w.heap.size ∧ F b) ∧ Below w.heap.size w w' := by
  have HP := Lib.hid hp
  have H := Lib.hid h
  have hA : 0 < l.length → ∃ b o, A = some ⟨b, o, none⟩ ∧ b < w.heap.size ∧ F b := fun h0 => by
    obtain ⟨b, o, e, hcell⟩ := h 0 h0
    exact ⟨b, o, e, World.block_lt_of_cell? w _ hcell, hF h0 b o e⟩
  have HA := Lib.hid hA
  clear hp h hA hF
  go_enter Try.func20, Try.ntmps20
  go_wp2_with fail
  go_loopw [1, 6] (fun v1 v6 wr => ∃ (pos m cm : Nat) (R : Option Addr) (outs : List (List UInt8)), v1 = .slice R m cm ∧ m ≤ cm ∧ m ≤ 100000 ∧ outs.length ≤ 100000 ∧ Hid (m + pos = l.length) ∧ Hid (outs.length ≤ pos) ∧ Hid (RB w R (l.drop pos)) ∧ Hid (0 < m → ∃ b o, R = some ⟨b, o, none⟩ ∧ b < w.heap.size ∧ F b) ∧ Hid (cutS p [] (l.take pos) = (outs, [])) ∧ Hid (OutR w.heap.size wr v6 outs) ∧ Hid (Below w.heap.size w wr)) (fun v1 _ _ => lenV v1)
  case atStart => exact ⟨0, l.length, c, A, [], rfl, hc, hl, by simp, Lib.hid rfl, Lib.hid (Nat.le_refl _), Lib.hid (by simpa using H.out), HA, Lib.hid rfl, Lib.hid (OutR.nil _ _), Lib.hid (Below.refl _ _)⟩
  case round =>
    obtain ⟨pos, m, cm, R, outs, rfl, hmc, hm5, ho5, HMP, HOP, HRR, HRM, HCU, HO, HB⟩ := hrel
    have HDL : Hid ((l.drop pos).length = m) := Lib.hid (by rw [List.length_drop]; have := HMP.out; omega)
    go_wp2_with fail
    refine (rfirst_calls p HP.out R cm m (l.drop pos) HDL.out _ (HRR.out.ext HB.out) hmc hm5).mono ?_
    rintro e w' ⟨j, rfl, rfl, hj⟩
    rcases hj with ⟨rfl, hnone⟩ | ⟨h1, hjm, _, hend, hfirst⟩
    · have hcut : cutS p [] l = (outs, l.drop pos) := by
        have h1 := cutS_append p [] (l.take pos) (l.drop pos)
        rw [List.take_append_drop, HCU.out] at h1
        dsimp only at h1
        rw [cut_none p (l.drop pos) (fun m' a b => hnone m' a (by have := HDL.out; omega))] at h1
        simpa using h1
      have HCUT := Lib.hid hcut
      clear hcut hnone
      go_wp2
      go_ret2
      rw [HCUT.out]
      exact ⟨_, R, m, cm, rfl, HO.out, HRR.out.ext HB.out, HDL.out, hmc, fun h0 b o e => by
        obtain ⟨b', o', e', hlt, hF⟩ := HRM.out h0
        rw [e'] at e
        injection e with e
        injection e with e1 _ _
        subst e1
        exact ⟨hlt, hF⟩, HB.out⟩
    · obtain ⟨pre, hpre⟩ : ∃ pre, (l.drop pos).take j = pre := ⟨_, rfl⟩
      have htk : l.take (pos + j) = l.take pos ++ pre := by rw [List.take_add, hpre]
      have hcf := cut_first p (l.drop pos) j h1 (by have := HDL.out; omega) hend hfirst
      rw [hpre] at hcf
      have hcut : cutS p [] (l.take (pos + j)) = (outs ++ [pre], []) := by
        rw [htk, cutS_append, HCU.out]
        dsimp only
        rw [hcf]
      have HCUT := Lib.hid hcut
      have HPL : Hid (pre.length = j) := Lib.hid (by rw [← hpre, List.length_take, HDL.out]; omega)
      obtain ⟨b1, o1, rfl, hlt1, hF1⟩ := HRM.out (by omega)
      have HF1 := Lib.hid hF1
      clear hF1
      have hrp := HRR.out.take j
      rw [hpre] at hrp
      have HRP := Lib.hid hrp
      have HRN : Hid (RB w (some ⟨b1, o1 + j, none⟩) (l.drop (pos + j))) := Lib.hid (by have := HRR.out.drop j; rwa [List.drop_drop] at this)
      have HMP2 : Hid (m - j + (pos + j) = l.length) := Lib.hid (by have := HMP.out; omega)
      have HOP2 : Hid ((outs ++ [pre]).length ≤ pos + j) := Lib.hid (by rw [List.length_append, List.length_singleton]; have := HOP.out; omega)
      have ho6 : (outs ++ [pre]).length ≤ 100000 := by have := HOP2.out; have := HMP2.out; omega
      have HOL6 := Lib.hid ho6
      have d0 : ((j : Int) == 0) = false := beq_eq_false_iff_ne.2 (by omega)
      clear hpre htk hcf hcut hrp hend hfirst ho6
      have hsz := HB.out.size
      have hO6 := HO.out.ext (ext_alloc wr (.cells #[.slice (some ⟨b1, o1, none⟩) j cm] 23))
      obtain ⟨vs, a6, b6, c6⟩ := hO6
      have A6 := Lib.hid a6
      have B6 := Lib.hid b6
      have C6 := Lib.hid c6
      clear a6 b6 c6
      obtain ⟨no, hno⟩ : ∃ n, outs.length = n := ⟨_, rfl⟩
      rw [hno] at ho5
      have HNO := Lib.hid hno
      have A6n : Hid ((wr.alloc (.cells #[.slice (some ⟨b1, o1, none⟩) j cm] 23)).ownsRow w.heap.size 23 1 u6 no vs) := Lib.hid (by rw [← hno]; exact A6.out)
      clear hno
      have hcase : cm = j ∨ j < cm := by omega
      rcases hcase with rfl | hjc
      · obtain rfl : m = cm := by omega
        go_wp2_with (at_builtin; refine wpList_app rfl _ _ 28 rfl w.heap.size 23 (.slice none 0 0) 24 Try.underlying28 infoS rfl (by decide) u6 no vs rfl A6n.out _ _ _ [.slice (some ⟨b1, o1, none⟩) m m] rfl rfl (RV.lit1 wr _ _) (by simp [Value.oneCell']) (by omega) (by simp; omega) ?_)
        intro v7 w7 a7 hg7 hb7
        have hO7 := OutR.push A6.out B6.out C6.out HPL.out ((HRP.out.ext HB.out).ext (ext_alloc wr _)) (Nat.le_refl _) (fun _ b o e => by cases e; exact hlt1) (by rw [HNO.out]; exact a7) hg7
        have HO7 := Lib.hid hO7
        have HB7 : Hid (Below w.heap.size w w7) := Lib.hid ((HB.out.alloc hsz _).grown hg7 (by simp; omega) fun x hx => (A6.out.lt x hx).1)
        clear hO7 a7 hg7 hb7 A6 A6n B6 C6 HO HB
        go_wp2
        exact ⟨⟨pos + m, 0, 0, _, outs ++ [pre], rfl, by omega, by omega, HOL6.out, by rw [Nat.sub_self] at HMP2; exact HMP2, HOP2, Lib.hid (by rw [List.drop_eq_nil_of_le (by have := HMP2.out; omega)]; exact RB.nil _ _), Lib.hid (fun h => absurd h (by omega)), HCUT, HO7, HB7⟩, by simp [lenV]; omega⟩
      · go_wp2_with (at_builtin; refine wpList_app rfl _ _ 28 rfl w.heap.size 23 (.slice none 0 0) 24 Try.underlying28 infoS rfl (by decide) u6 no vs rfl A6n.out _ _ _ [.slice (some ⟨b1, o1, none⟩) j cm] rfl rfl (RV.lit1 wr _ _) (by simp [Value.oneCell']) (by omega) (by simp; omega) ?_)
        intro v7 w7 a7 hg7 hb7
        have hO7 := OutR.push (c' := cm) A6.out B6.out C6.out HPL.out ((HRP.out.ext HB.out).ext (ext_alloc wr _)) (by omega) (fun _ b o e => by cases e; exact hlt1) (by rw [HNO.out]; exact a7) hg7
        have HO7 := Lib.hid hO7
        have HB7 : Hid (Below w.heap.size w w7) := Lib.hid ((HB.out.alloc hsz _).grown hg7 (by simp; omega) fun x hx => (A6.out.lt x hx).1)
        clear hO7 a7 hg7 hb7 A6 A6n B6 C6 HO HB
        go_wp2
        exact ⟨⟨pos + j, m - j, cm - j, some ⟨b1, o1 + j, none⟩, outs ++ [pre], rfl, by omega, by omega, HOL6.out, HMP2, HOP2, HRN, Lib.hid (fun _ => ⟨b1, o1 + j, rfl, hlt1, HF1.out⟩), HCUT, HO7, HB7⟩, by simp [lenV]; omega⟩
theorem rcut_calls (p : Nat) (hp : bl p = 32) (A : Option Addr) (c : Nat) (l : List UInt8) (w : World) (h : RB w A l) (hc : l.length ≤ c) (hl : l.length ≤ 100000) :
    Calls Try.prog 20 #[.int .u64 (p : Int), .slice A l.length c] w fun e w' => ∃ vo R nr cr, e = .returned (.tuple #[vo, .slice R nr cr]) ∧ OutR w.heap.size w' vo (cutS p [] l).1 ∧ RB w' R (cutS p [] l).2 ∧ (cutS p [] l).2.length = nr ∧ nr ≤ cr ∧ (0 < nr → ∀ b o, R = some ⟨b, o, none⟩ → b < w.heap.size) ∧ Below w.heap.size w w' :=
  (rcut_at p hp (fun _ => True) A c l w h hc hl (fun _ _ _ _ => trivial)).mono fun e w' ⟨vo, R, nr, cr, a, b, c, d, f, g, h⟩ => ⟨vo, R, nr, cr, a, b, c, d, f, fun h0 b o e => (g h0 b o e).1, h⟩
end Go.Proofs.Ytmohjgcnhibkoaa
