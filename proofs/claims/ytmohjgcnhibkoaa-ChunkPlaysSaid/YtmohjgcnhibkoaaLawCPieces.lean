/- The walk of the law ChunkPieces. -/
import Derived.Test.YtmohjgcnhibkoaaLawAgain
namespace Go.Proofs.Ytmohjgcnhibkoaa
open Go.RowKit
set_option linter.unusedVariables false

theorem OutIs.wrote {B D : Nat} {w w' : World} {k r g q : Nat} {v v' vo : Value} {L p : List UInt8} {ls : List (List UInt8)} (h : OutIs D w vo v ls) (hC : CutIs B w k r g q v L p) (e : Chg w w' (own k r v))
    (hb : v'.ownBlock = v.ownBlock ∨ v'.ownBlock = none ∨ ∃ x, v'.ownBlock = some x ∧ w.heap.size ≤ x) : OutIs D w' vo v' ls := by
  have h2 := h.swap hb
  obtain ⟨vs, a, b, c⟩ := h
  obtain ⟨vs2, a2, b2, c2⟩ := h2
  obtain ⟨cs, hr⟩ := hC.rb
  refine ⟨vs, own_chg a e (fun x hx hk => ?_), b, fun i u hu => ⟨own_chg (c i u hu).1 e (fun x hx hk => ?_), ?_⟩⟩
  · simp only [own, List.mem_cons] at hk
    rcases hk with rfl | rfl | hk
    · exact own_ne_bk a hC.c (by decide) hx
    · exact own_ne_bk a hr (by decide) hx
    · rcases own_ne_own a hC.o (by decide) with e0 | e0
      · rw [e0] at hx; cases hx
      · exact e0 (by rw [hx]; exact (by simpa using hk : v.ownBlock = some x).symm)
  · simp only [own, List.mem_cons] at hk
    rcases hk with rfl | rfl | hk
    · exact own_ne_bk (c i u hu).1 hC.c (by decide) hx
    · exact own_ne_bk (c i u hu).1 hr (by decide) hx
    · rcases (c i u hu).2 with e0 | e0
      · rw [e0] at hx; cases hx
      · exact e0 (by rw [hx]; exact (by simpa using hk : v.ownBlock = some x).symm)
  · have hi : i < vs.length := (List.getElem?_eq_some_iff.1 hu).1
    rcases hb with e1 | e1 | ⟨x, e1, hx⟩
    · rw [e1]; exact (c i u hu).2
    · rw [e1]; cases u.ownBlock <;> simp
    · rw [e1]
      cases hu2 : u.ownBlock with
      | none => exact .inl rfl
      | some y => exact .inr fun e => by have := ((c i u hu).1.lt y hu2).2; have := Option.some.inj e; omega
/-- Another cutter is written. -/
theorem CutIs.wrote {B : Nat} {w w' : World} {k r k2 r2 g q : Nat} {v v2 : Value} {L p L2 p2 : List UInt8} (h : CutIs B w k r g q v L p) (hC : CutIs B w k2 r2 g q v2 L2 p2) (e : Chg w w' (own k2 r2 v2)) (hk : k ≠ k2) (hr : r ≠ r2) (hv : v.ownBlock = none ∨ v.ownBlock ≠ v2.ownBlock) : CutIs B w' k r g q v L p := by
  obtain ⟨cs, hrb⟩ := h.rb
  obtain ⟨cs2, hrb2⟩ := hC.rb
  refine h.chg e (fun m => ?_) (fun m => ?_) (fun m => ?_) (fun x hx m => ?_)
  all_goals simp only [own, List.mem_cons] at m
  · rcases m with m | m | m
    · exact hk m
    · exact bk_ne h.c hrb2 (by decide) m
    · exact own_ne_bk hC.o h.c (by decide) (by simpa using m)
  · rcases m with m | m | m
    · exact bk_ne hC.c hrb (by decide) m.symm
    · exact hr m
    · exact own_ne_bk hC.o hrb (by decide) (by simpa using m)
  · rcases m with m | m | m
    · exact hC.gk m
    · exact hC.gr m
    · exact hC.vg (by simpa using m)
  · rcases m with rfl | rfl | m
    · exact own_ne_bk h.o hC.c (by decide) hx
    · exact own_ne_bk h.o hrb2 (by decide) hx
    · rcases hv with e0 | e0
      · rw [e0] at hx; cases hx
      · exact e0 (by rw [hx]; exact (by simpa using m : v2.ownBlock = some x).symm)
theorem own_swap {B e n : Nat} {w : World} {u v v' : Value} {xs : List Value} (h : w.ownsRow B e 1 u n xs) (hn : u.ownBlock = none ∨ u.ownBlock ≠ v.ownBlock) (hb : v'.ownBlock = v.ownBlock ∨ v'.ownBlock = none ∨ ∃ x, v'.ownBlock = some x ∧ w.heap.size ≤ x) : u.ownBlock = none ∨ u.ownBlock ≠ v'.ownBlock := by
  rcases hb with e1 | e1 | ⟨x, e1, hx⟩
  · rw [e1]; exact hn
  · rw [e1]; cases u.ownBlock <;> simp
  · rw [e1]
    cases hu2 : u.ownBlock with
    | none => exact .inl rfl
    | some y => exact .inr fun e => by have := (h.lt y hu2).2; have := Option.some.inj e; omega
theorem row_reads {D e n : Nat} {w : World} {A : Option Addr} {c : Nat} {vs : List Value} (h : w.ownsRow D e 1 (.slice A n c) n vs) : RV w A vs := fun j u hj => by
  rcases h.2 with ⟨e1, h0⟩ | ⟨g, cap, cur, e1, _⟩
  · have := (List.getElem?_eq_some_iff.1 hj).1
    have h1 := h.1
    omega
  · injection e1 with ea _ _
    subst ea
    have := h.cells (g := g) rfl j u hj
    rw [show (⟨g, 0, none⟩ : Addr).add j = ⟨g, 0 + j, none⟩ by unfold Addr.add; split <;> simp_all] at this
    exact ⟨g, 0, rfl, this⟩
/-- All of another list behind. -/
theorem OutIs.join {D : Nat} {w w' : World} {vo v vo' : Value} {ls ms : List (List UInt8)} {vs us : List Value} (a : w.ownsRow D 23 1 vo ls.length vs) (b : vs.length = ls.length) (c : ∀ i u, vs[i]? = some u → OwnB D 5 w u (ls.getD i []) ∧ (u.ownBlock = none ∨ u.ownBlock ≠ v.ownBlock))
    (b2 : us.length = ms.length) (c2 : ∀ i u, us[i]? = some u → OwnB D 5 w u (ms.getD i []) ∧ (u.ownBlock = none ∨ u.ownBlock ≠ v.ownBlock))
    (a' : w'.ownsRow D 23 1 vo' (ls.length + ms.length) (vs ++ us)) (e : w.grownBy w' vo.ownBlock) : OutIs D w' vo' v (ls ++ ms) := by
  refine ⟨vs ++ us, by simpa using a', by simp [b, b2], fun i x hx => ?_⟩
  by_cases hi : i < vs.length
  · rw [List.getElem?_append_left hi] at hx
    obtain ⟨c1, c2⟩ := c i x hx
    rw [List.getD_eq_getElem?_getD, List.getElem?_append_left (by omega), ← List.getD_eq_getElem?_getD]
    exact ⟨c1.other e (own_ne_own c1 a (by decide)), c2⟩
  · rw [List.getElem?_append_right (by omega)] at hx
    obtain ⟨c1, c3⟩ := c2 _ x hx
    rw [List.getD_eq_getElem?_getD, List.getElem?_append_right (by omega), ← List.getD_eq_getElem?_getD, ← b]
    exact ⟨c1.other e (own_ne_own c1 a (by decide)), c3⟩
theorem write_n {B : Nat} {w : World} {k r g q : Nat} (hq : bl q = 32) {v : Value} {L P pend : List UInt8} (hL : L = P ++ pend) (h : CutIs B w k r g q v L pend) (hp : pend.length < 256) (hB : B ≤ w.heap.size)
    (A : Option Addr) (c n : Nat) (l : List UInt8) (hn : l.length = n) (hr : RB w A l) (hA : 0 < n → ∀ b o, A = some ⟨b, o, none⟩ → b ∉ own k r v) (hl : n ≤ 100000) :
    Calls Try.prog 16 #[.pointer (some ⟨k, 0, none⟩), .slice A n c] w fun e w' => ∃ vo v', e = .returned vo ∧ OutIs w.heap.size w' vo v' (cutS q pend l).1 ∧ CutIs B w' k r g q v' (L ++ l) (cutS q pend l).2 ∧ Chg w w' (own k r v) ∧
      (v'.ownBlock = v.ownBlock ∨ v'.ownBlock = none ∨ ∃ x, v'.ownBlock = some x ∧ w.heap.size ≤ x) := by
  subst hn hL
  exact write_calls hq h hp hB A c l hr hA hl
/-- All that lies about in the loop: the first cutter and what it cut, the second one, and what came of it so far. -/
structure PInv (W0 D : Nat) (w0 w : World) (ka ra kb rb g q : Nat) (va vb vw vg : Value) (l : List UInt8) (pos : Nat) : Prop where
  a : CutIs W0 w ka ra g q va l (cutS q [] l).2
  b : CutIs W0 w kb rb g q vb (l.take pos) (cutS q [] (l.take pos)).2
  n : va.ownBlock = none ∨ va.ownBlock ≠ vb.ownBlock
  want : OutIs W0 w vw vb (cutS q [] l).1
  got : OutIs W0 w vg vb (cutS q [] (l.take pos)).1
  apart : vw.ownBlock = none ∨ vw.ownBlock ≠ vg.ownBlock
  kk : ka ≠ kb
  rr : ra ≠ rb
  wkb : W0 ≤ kb
  wrb : W0 ≤ rb
  below : Below W0 w0 w
/-- Behind a Write of the second one. -/
theorem PInv.wrote {W0 D : Nat} {w0 w w' : World} {ka ra kb rb g q : Nat} {va vb vw vg vb' : Value} {l : List UInt8} {pos pos' : Nat} {d : List UInt8} (h : PInv W0 D w0 w ka ra kb rb g q va vb vw vg l pos) (hW : W0 ≤ w.heap.size) (hd : l.take pos' = l.take pos ++ d)
    (hC : CutIs W0 w' kb rb g q vb' (l.take pos ++ d) (cutS q (cutS q [] (l.take pos)).2 d).2) (e : Chg w w' (own kb rb vb)) (hb : vb'.ownBlock = vb.ownBlock ∨ vb'.ownBlock = none ∨ ∃ x, vb'.ownBlock = some x ∧ w.heap.size ≤ x) :
    CutIs W0 w' ka ra g q va l (cutS q [] l).2 ∧ CutIs W0 w' kb rb g q vb' (l.take pos') (cutS q [] (l.take pos')).2 ∧ (va.ownBlock = none ∨ va.ownBlock ≠ vb'.ownBlock) ∧ OutIs W0 w' vw vb' (cutS q [] l).1 ∧ OutIs W0 w' vg vb' (cutS q [] (l.take pos)).1 ∧ Below W0 w0 w' := by
  refine ⟨h.a.wrote h.b e h.kk h.rr h.n, ?_, own_swap h.a.o h.n hb, h.want.wrote h.b e hb, h.got.wrote h.b e hb, h.below.trans (e.below hW fun x hx => ?_)⟩
  · rw [hd, cutS_append]; exact hC
  · simp only [own, List.mem_cons] at hx
    rcases hx with rfl | rfl | hx
    · exact h.wkb
    · exact h.wrb
    · exact (h.b.o.lt x (by simpa using hx)).1
/-- Behind the append of what it cut. -/
theorem PInv.joined {W0 D : Nat} {w0 w w' : World} {ka ra kb rb g q : Nat} {va vw vg vb' vg' : Value} {l : List UInt8} {pos' : Nat} {ls ms : List (List UInt8)} {vs us : List Value} (hA : CutIs W0 w ka ra g q va l (cutS q [] l).2) (hB : CutIs W0 w kb rb g q vb' (l.take pos') (cutS q [] (l.take pos')).2)
    (hn : va.ownBlock = none ∨ va.ownBlock ≠ vb'.ownBlock) (hw : OutIs W0 w vw vb' (cutS q [] l).1) (hap : vw.ownBlock = none ∨ vw.ownBlock ≠ vg.ownBlock) (hb : Below W0 w0 w) (kk : ka ≠ kb) (rr : ra ≠ rb) (wkb : W0 ≤ kb) (wrb : W0 ≤ rb) (hW : W0 ≤ w.heap.size)
    (a : w.ownsRow W0 23 1 vg ls.length vs) (b : vs.length = ls.length) (c : ∀ i u, vs[i]? = some u → OwnB W0 5 w u (ls.getD i []) ∧ (u.ownBlock = none ∨ u.ownBlock ≠ vb'.ownBlock))
    (b2 : us.length = ms.length) (c2 : ∀ i u, us[i]? = some u → OwnB W0 5 w u (ms.getD i []) ∧ (u.ownBlock = none ∨ u.ownBlock ≠ vb'.ownBlock))
    (hls : ls ++ ms = (cutS q [] (l.take pos')).1)
    (a' : w'.ownsRow W0 23 1 vg' (ls.length + ms.length) (vs ++ us)) (e : w.grownBy w' vg.ownBlock) (hv : vg'.ownBlock = vg.ownBlock ∨ vg'.ownBlock = some w.heap.size) : PInv W0 D w0 w' ka ra kb rb g q va vb' vw vg' l pos' := by
  obtain ⟨cs, hra⟩ := hA.rb
  obtain ⟨cs2, hrb⟩ := hB.rb
  have hgot := OutIs.join a b c b2 c2 a' e
  rw [hls] at hgot
  obtain ⟨vsw, aw, bw, cw⟩ := hw
  refine ⟨hA.kept e (own_ne_bk a hA.c (by decide)) (own_ne_bk a hra (by decide)) (own_ne_bk a hA.tab (by decide)) (own_ne_own hA.o a (by decide)), hB.kept e (own_ne_bk a hB.c (by decide)) (own_ne_bk a hrb (by decide)) (own_ne_bk a hB.tab (by decide)) (own_ne_own hB.o a (by decide)), hn,
    ⟨vsw, aw.kept e hap, bw, fun i u hu => ⟨(cw i u hu).1.other e (own_ne_own (cw i u hu).1 a (by decide)), (cw i u hu).2⟩⟩, hgot, own_swap aw hap (hv.imp id fun k => .inr ⟨_, k, Nat.le_refl _⟩), kk, rr, wkb, wrb, hb.grown e hW fun x hx => (a.lt x hx).1⟩
theorem cut_more {q : Nat} {l d : List UInt8} {pos pos' : Nat} (hd : l.take pos' = l.take pos ++ d) : (cutS q [] (l.take pos)).1 ++ (cutS q (cutS q [] (l.take pos)).2 d).1 = (cutS q [] (l.take pos')).1 := by rw [hd, cutS_append]

set_option maxRecDepth 100000 in
set_option maxHeartbeats 4000000 in
theorem cpieces_walk (w : World) (p : Nat) (hp : p ≤ 18446744073709551615) (A : Option Addr) (c : Nat) (l : List UInt8) (h : RB w A l) (hc : l.length ≤ c) (hl : l.length ≤ 140737488351232)
    (B : Option Addr) (d : Nat) (t : List Int) (h2 : RZ w B t) (hd : t.length ≤ d) (hl2 : t.length ≤ 17592186043904) (hz : ∀ i, -9223372036854775808 ≤ t.getD i 0 ∧ t.getD i 0 ≤ 9223372036854775807) :
    Calls Try.prog 7 #[.int .u64 (p : Int), .slice A l.length c, .slice B t.length d] w fun e w' => e = .returned (.bool true) ∧ Below w.heap.size w w' := by
  have HP := Lib.hid (U64.of hp)
  have H := Lib.hid h
  have H2 := Lib.hid h2
  have HZ := Lib.hid hz
  clear hp h h2 hz
  by_cases s1 : 8192 < l.length
  · go_enter Try.func7, Try.ntmps7
    go_wp2_with fail
    refine (awake_calls w).mono ?_
    rintro e w2 ⟨rfl, hb⟩
    have HB := Lib.hid hb
    clear hb
    go_wp2
    go_ret
    exact ⟨rfl, HB.out⟩
  by_cases s2 : 200 < t.length
  · go_enter Try.func7, Try.ntmps7
    go_wp2_with fail
    refine (awake_calls w).mono ?_
    rintro e w2 ⟨rfl, hb⟩
    have HB := Lib.hid hb
    clear hb
    go_wp2
    go_ret
    exact ⟨rfl, HB.out⟩
  go_enter Try.func7, Try.ntmps7
  go_wp2_with fail
  refine (table_calls p HP.out w).mono ?_
  rintro e w1 ⟨g, rfl, ht, hg, hb⟩
  have hq := tabP_bl p
  generalize tabP p = q at *
  have HQ := Lib.hid hq
  have HT := Lib.hid ht
  have HB := Lib.hid hb
  have hsz1 := hb.size
  have hgl := HT.out.lt
  clear hq ht hb
  go_wp2_with fail
  refine (cnew_calls w.heap.size g q HQ.out w1 HT.out).mono ?_
  rintro e w2 ⟨ka, ra, rfl, hka, hra, hCa, hG2⟩
  have HCa := Lib.hid hCa
  have HB2 : Hid (Below w.heap.size w w2) := Lib.hid (below_grown HB.out hG2 HB.out.size hg)
  have hsz2 := hG2.size
  clear hCa hG2
  go_wp2_with fail
  refine (cnew_calls w.heap.size g q HQ.out w2 HCa.out.tab.is).mono ?_
  rintro e w3 ⟨kb, rb, rfl, hkb, hrb, hCb, hG3⟩
  have hka2 : ka < w2.heap.size := HCa.out.c.lt
  have hra2 : ra < w2.heap.size := HCa.out.roll.lt
  have hgka := HCa.out.gk
  have hgra := HCa.out.gr
  have hPair : Pair w.heap.size w3 ka ra kb rb g q [] [] := ⟨⟨HCa.out.c.same (hG3.block ka hka2 (fun e => by cases e; omega)), OwnB.nil _ _ _, HCa.out.roll.same (hG3.block ra hra2 (fun e => by cases e; omega)), hCb.tab⟩, hCb, by omega, by omega⟩
  have HPR := Lib.hid hPair
  have HB3 : Hid (Below w.heap.size w w3) := Lib.hid (below_grown HB2.out hG3 HB2.out.size hg)
  have hsz3 := HB3.out.size
  have wka : w.heap.size ≤ ka := by omega
  have wra : w.heap.size ≤ ra := by omega
  have wkb : w.heap.size ≤ kb := by omega
  have wrb : w.heap.size ≤ rb := by omega
  clear hCb hG3 hPair HCa HB2 HB HT hgka hgra hka hra hkb hrb hsz1 hsz2 hgl hka2 hra2
  obtain ⟨hr1, ho1⟩ := H.out.old HB3.out [ka, ra] (by simp; omega)
  have HR1 := Lib.hid hr1
  have HO1 := Lib.hid ho1
  clear hr1 ho1
  go_wp2_with fail
  refine (write_calls (P := []) HQ.out HPR.out.a (by simp) hsz3 A c l HR1.out HO1.out (by omega)).mono ?_
  rintro e w4 ⟨vw, va, rfl, hO4, hC4, hG4, _⟩
  have hb4 := HPR.out.aside1 hG4
  have hB4 : Below w.heap.size w w4 := HB3.out.trans (hG4.below hsz3 (by simp [own, Value.ownBlock]; omega))
  have hPI : PInv w.heap.size 0 w w4 ka ra kb rb g q va (.slice none 0 0) vw (.slice none 0 0) l 0 :=
    ⟨by simpa using hC4, by simpa [cutS] using hb4, by cases va.ownBlock <;> simp [Value.ownBlock], (hO4.mono hsz3).swap (.inr (.inl rfl)), OutIs.nil _ _ _, by cases vw.ownBlock <;> simp [Value.ownBlock], HPR.out.kk, HPR.out.rr, wkb, wrb, hB4⟩
  have HPI := Lib.hid hPI
  have hR0 : 0 < l.length → ∃ b o, A = some ⟨b, o, none⟩ ∧ b < w.heap.size := fun h0 => by
    obtain ⟨b, o, e, hcell⟩ := H.out 0 h0
    exact ⟨b, o, e, World.block_lt_of_cell? w _ hcell⟩
  have HR0 := Lib.hid hR0
  have hl8 : l.length ≤ 8192 := by omega
  clear hO4 hC4 hG4 hb4 hB4 hPI HR1 HO1 HPR HB3 hR0
  go_wp2_with fail
  go_loopw [12, 13, 41] (fun vg vr i wr => ∃ (k pos m cm : Nat) (R : Option Addr) (vb : Value), k ≤ t.length ∧ i = .int .i64 k ∧ vr = .slice R m cm ∧ m ≤ cm ∧ m ≤ 8192 ∧ Hid (m + pos = l.length) ∧ Hid (0 < m → ∃ b o, R = some ⟨b, o, none⟩ ∧ b < w.heap.size) ∧ Hid (RB w R (l.drop pos)) ∧ Hid (PInv w.heap.size 0 w wr ka ra kb rb g q va vb vw vg l pos)) (fun _ _ i _ => t.length - (intOf i).toNat)
  case atStart => exact ⟨0, 0, l.length, c, A, .slice none 0 0, Nat.zero_le _, rfl, rfl, hc, hl8, Lib.hid rfl, HR0, Lib.hid (by simpa using H.out), HPI⟩
  case round =>
    clear HPI
    obtain ⟨k, pos, m, cm, R, vb, hk, rfl, rfl, hmc, hm8, HMP, HRM, HRR, HPI⟩ := hrel
    by_cases hkt : k < t.length
    · have d1 : decide ((k : Int) < (t.length : Int)) = true := by simpa using hkt
      obtain ⟨b3, o3, rfl, hcell⟩ := (H2.out.ext HPI.out.below) k hkt
      have hzz := HZ.out k
      obtain ⟨z, hze⟩ : ∃ z, t.getD k 0 = z := ⟨_, rfl⟩
      rw [hze] at hzz hcell
      obtain ⟨z1, z2⟩ := hzz
      obtain ⟨x, hx, _⟩ := u64_some' z
      obtain ⟨j, hj, hj1⟩ : ∃ j : Nat, (x : Int).tmod ((m : Int) + 1) = j ∧ j ≤ m := ⟨x % (m + 1), tmod_nat' x (m + 1), by have := Nat.mod_lt x (show 0 < m + 1 by omega); omega⟩
      obtain ⟨pre, hpre⟩ : ∃ pre, (l.drop pos).take j = pre := ⟨_, rfl⟩
      have hml : (l.drop pos).length = m := by rw [List.length_drop]; have := HMP.out; omega
      have HPL : Hid (pre.length = j) := Lib.hid (by rw [← hpre, List.length_take, hml]; omega)
      have HTK : Hid (l.take (pos + j) = l.take pos ++ pre) := Lib.hid (by rw [List.take_add, hpre])
      have HMP2 : Hid (m - j + (pos + j) = l.length) := Lib.hid (by have := HMP.out; omega)
      have hszr : w.heap.size ≤ wr.heap.size := HPI.out.below.size
      have HW : Hid (∀ R', (0 < j → R' = R) → RB wr R' pre ∧ (0 < j → ∀ b o, R' = some ⟨b, o, none⟩ → b ∉ own kb rb vb)) := Lib.hid fun R' hR' => by
        by_cases h0 : j = 0
        · have e0 : pre = [] := List.eq_nil_of_length_eq_zero (by rw [HPL.out, h0])
          rw [e0]
          exact ⟨RB.nil _ _, fun h => by omega⟩
        · rw [hR' (by omega)]
          refine ⟨?_, fun _ b o e hm => ?_⟩
          · have := HRR.out.take j
            rw [hpre] at this
            exact this.ext HPI.out.below
          · obtain ⟨b', o', e', hlt⟩ := HRM.out (by omega)
            rw [e'] at e
            injection e with e
            injection e with e1 _ _
            simp only [own, List.mem_cons] at hm
            rcases hm with hm | hm | hm
            · omega
            · omega
            · have := (HPI.out.b.o.lt b (by simpa using hm)).1
              omega
      have HN : Hid (∀ R', (0 < m - j → ∃ b o, R = some ⟨b, o, none⟩ ∧ R' = some ⟨b, o + j, none⟩) → RB w R' (l.drop (pos + j)) ∧ (0 < m - j → ∃ b o, R' = some ⟨b, o, none⟩ ∧ b < w.heap.size)) := Lib.hid fun R' hR' => by
        by_cases h0 : m - j = 0
        · have e0 : l.drop (pos + j) = [] := List.drop_eq_nil_of_le (by have := HMP2.out; omega)
          rw [e0]
          exact ⟨RB.nil _ _, fun h => by omega⟩
        · obtain ⟨b, o, e1, e2⟩ := hR' (by omega)
          obtain ⟨b', o', e', hlt⟩ := HRM.out (by omega)
          have hr := HRR.out
          rw [e1] at hr e'
          injection e' with e'
          injection e' with e3 _ _
          have := hr.drop j
          rw [List.drop_drop] at this
          rw [e2]
          exact ⟨this, fun _ => ⟨b, o + j, rfl, by omega⟩⟩
      have hlt := cutS_lt q [] (l.take pos) (by simp)
      have hjn := cutS_join q [] (l.take pos)
      rw [List.nil_append] at hjn
      have HLT := Lib.hid hlt
      have HJN := Lib.hid hjn.symm
      have hm0 : 0 < m → ∃ b o, R = some ⟨b, o, none⟩ := fun h0 => by obtain ⟨b, o, e, _⟩ := HRM.out h0; exact ⟨b, o, e⟩
      clear hze hpre hml hlt hjn
      have hcase : m = 0 ∨ (0 < m ∧ cm = j) ∨ (0 < m ∧ j < cm) := by omega
      rcases hcase with rfl | ⟨h0, rfl⟩ | ⟨h0, hjc⟩
      · obtain rfl : j = 0 := by omega
        clear hm0
        rcases R with _ | ⟨b9, o9, _ | p9⟩ <;> go_wp2_with fail
        all_goals
          refine (write_n HQ.out HJN.out HPI.out.b HLT.out hszr _ _ 0 pre HPL.out (HW.out _ ?_).1 (HW.out _ ?_).2 (by omega)).mono ?_
          first | exact fun _ => rfl | exact fun h => absurd h (by omega)
          first | exact fun _ => rfl | exact fun h => absurd h (by omega)
          rintro e w5 ⟨vn, vb', rfl, hO5, hC5, hG5, hV5⟩
          obtain ⟨e1, e2, e3, e4, e5, e6⟩ := HPI.out.wrote hszr HTK.out hC5 hG5 hV5
          have hO6 := hO5.mono hszr
          obtain ⟨An, cn, hvn, _, _⟩ := hO6.rbb
          have hms := cutS_count q (cutS q [] (l.take pos)).2 pre
          have hls := cutS_count q [] (l.take pos)
          rw [HPL.out] at hms
          rw [List.length_take] at hls
          obtain ⟨nm, hnm⟩ : ∃ n, (cutS q (cutS q [] (l.take pos)).2 pre).1.length = n := ⟨_, rfl⟩
          rw [hnm] at hvn hms
          subst hvn
          obtain ⟨vs, a5, b5, c5⟩ := e5
          obtain ⟨us, a6, b6, c6⟩ := hO6
          have hrv : RV w5 An us := row_reads (by rw [hnm] at a6; exact a6)
          have hone : ∀ u ∈ us, u.oneCell' = true := fun u hu => by
            obtain ⟨y, hy, hu2⟩ := List.getElem_of_mem hu
            obtain ⟨A', c', e, _⟩ := (c6 y u (by rw [List.getElem?_eq_getElem hy, hu2])).1.form
            rw [e]
            rfl
          have hb6 : us.length = nm := by rw [b6, hnm]
          have E1 := Lib.hid e1
          have E2 := Lib.hid e2
          have E3 := Lib.hid e3
          have E4 := Lib.hid e4
          have E6 := Lib.hid e6
          have A5 := Lib.hid a5
          have B5 := Lib.hid b5
          have C5 := Lib.hid c5
          have B6 := Lib.hid b6
          have C6 := Lib.hid c6
          have HRV := Lib.hid hrv
          have HONE := Lib.hid hone
          have HB6 := Lib.hid hb6
          have HNM := Lib.hid hnm
          have hsz5 : w.heap.size ≤ w5.heap.size := e6.size
          have hlsm : (cutS q [] (l.take pos)).1.length ≤ 8192 := by omega
          obtain ⟨ng, hng⟩ : ∃ n, (cutS q [] (l.take pos)).1.length = n := ⟨_, rfl⟩
          rw [hng] at hlsm
          have A5n : Hid (w5.ownsRow w.heap.size 23 1 u12 ng vs) := Lib.hid (by rw [← hng]; exact a5)
          have HNG := Lib.hid hng
          clear e1 e2 e3 e4 e6 a5 b5 c5 a6 b6 c6 hrv hone hb6 hO5 hC5 hG5 hV5 hls hnm hng
          go_wp2_with (at_builtin; refine wpList_app rfl _ _ 28 rfl w.heap.size 23 (.slice none 0 0) 24 Try.underlying28 infoS rfl (by decide) u12 ng vs rfl A5n.out _ _ _ us rfl HB6.out HRV.out HONE.out (by omega) hsz5 ?_)
          intro v7 w7 a7 hg7 hb7
          have hPI7 := PInv.joined (D := 0) E1.out E2.out E3.out E4.out HPI.out.apart E6.out HPI.out.kk HPI.out.rr HPI.out.wkb HPI.out.wrb hsz5 A5.out B5.out C5.out B6.out C6.out (cut_more HTK.out) (by rw [HNG.out, HNM.out]; exact a7) hg7 hb7
          have HPI7 := Lib.hid hPI7
          clear hPI7 a7 hg7 hb7 A5 A5n B5 C5 B6 C6 E1 E2 E3 E4 E6 HRV HONE HPI HW
          go_wp2
          exact ⟨⟨k + 1, pos + 0, 0 - 0, cm - 0, _, vb', by omega, by go_num, rfl, by omega, by omega, HMP2, Lib.hid (HN.out _ (fun h => absurd h (by omega))).2, Lib.hid (HN.out _ (fun h => absurd h (by omega))).1, HPI7⟩, by simp [intOf]; omega⟩
      · obtain ⟨b1, o1, rfl⟩ := hm0 h0
        obtain rfl : m = cm := by omega
        go_wp2_with fail
        refine (write_n HQ.out HJN.out HPI.out.b HLT.out hszr _ _ m pre HPL.out (HW.out _ ?_).1 (HW.out _ ?_).2 (by omega)).mono ?_
        first | exact fun _ => rfl | exact fun h => absurd h (by omega)
        first | exact fun _ => rfl | exact fun h => absurd h (by omega)
        rintro e w5 ⟨vn, vb', rfl, hO5, hC5, hG5, hV5⟩
        obtain ⟨e1, e2, e3, e4, e5, e6⟩ := HPI.out.wrote hszr HTK.out hC5 hG5 hV5
        have hO6 := hO5.mono hszr
        obtain ⟨An, cn, hvn, _, _⟩ := hO6.rbb
        have hms := cutS_count q (cutS q [] (l.take pos)).2 pre
        have hls := cutS_count q [] (l.take pos)
        rw [HPL.out] at hms
        rw [List.length_take] at hls
        obtain ⟨nm, hnm⟩ : ∃ n, (cutS q (cutS q [] (l.take pos)).2 pre).1.length = n := ⟨_, rfl⟩
        rw [hnm] at hvn hms
        subst hvn
        obtain ⟨vs, a5, b5, c5⟩ := e5
        obtain ⟨us, a6, b6, c6⟩ := hO6
        have hrv : RV w5 An us := row_reads (by rw [hnm] at a6; exact a6)
        have hone : ∀ u ∈ us, u.oneCell' = true := fun u hu => by
          obtain ⟨y, hy, hu2⟩ := List.getElem_of_mem hu
          obtain ⟨A', c', e, _⟩ := (c6 y u (by rw [List.getElem?_eq_getElem hy, hu2])).1.form
          rw [e]
          rfl
        have hb6 : us.length = nm := by rw [b6, hnm]
        have E1 := Lib.hid e1
        have E2 := Lib.hid e2
        have E3 := Lib.hid e3
        have E4 := Lib.hid e4
        have E6 := Lib.hid e6
        have A5 := Lib.hid a5
        have B5 := Lib.hid b5
        have C5 := Lib.hid c5
        have B6 := Lib.hid b6
        have C6 := Lib.hid c6
        have HRV := Lib.hid hrv
        have HONE := Lib.hid hone
        have HB6 := Lib.hid hb6
        have HNM := Lib.hid hnm
        have hsz5 : w.heap.size ≤ w5.heap.size := e6.size
        have hlsm : (cutS q [] (l.take pos)).1.length ≤ 8192 := by omega
        obtain ⟨ng, hng⟩ : ∃ n, (cutS q [] (l.take pos)).1.length = n := ⟨_, rfl⟩
        rw [hng] at hlsm
        have A5n : Hid (w5.ownsRow w.heap.size 23 1 u12 ng vs) := Lib.hid (by rw [← hng]; exact a5)
        have HNG := Lib.hid hng
        clear e1 e2 e3 e4 e6 a5 b5 c5 a6 b6 c6 hrv hone hb6 hO5 hC5 hG5 hV5 hls hnm hng
        go_wp2_with (at_builtin; refine wpList_app rfl _ _ 28 rfl w.heap.size 23 (.slice none 0 0) 24 Try.underlying28 infoS rfl (by decide) u12 ng vs rfl A5n.out _ _ _ us rfl HB6.out HRV.out HONE.out (by omega) hsz5 ?_)
        intro v7 w7 a7 hg7 hb7
        have hPI7 := PInv.joined (D := 0) E1.out E2.out E3.out E4.out HPI.out.apart E6.out HPI.out.kk HPI.out.rr HPI.out.wkb HPI.out.wrb hsz5 A5.out B5.out C5.out B6.out C6.out (cut_more HTK.out) (by rw [HNG.out, HNM.out]; exact a7) hg7 hb7
        have HPI7 := Lib.hid hPI7
        clear hPI7 a7 hg7 hb7 A5 A5n B5 C5 B6 C6 E1 E2 E3 E4 E6 HRV HONE HPI HW
        go_wp2
        exact ⟨⟨k + 1, pos + m, m - m, m - m, _, vb', by omega, by go_num, by rw [Nat.sub_self], by omega, by omega, HMP2, Lib.hid (HN.out _ (fun h => absurd h (by omega))).2, Lib.hid (HN.out _ (fun h => absurd h (by omega))).1, HPI7⟩, by simp [intOf]; omega⟩
      · obtain ⟨b1, o1, rfl⟩ := hm0 h0
        go_wp2_with fail
        refine (write_n HQ.out HJN.out HPI.out.b HLT.out hszr _ _ j pre HPL.out (HW.out _ ?_).1 (HW.out _ ?_).2 (by omega)).mono ?_
        first | exact fun _ => rfl | exact fun h => absurd h (by omega)
        first | exact fun _ => rfl | exact fun h => absurd h (by omega)
        rintro e w5 ⟨vn, vb', rfl, hO5, hC5, hG5, hV5⟩
        obtain ⟨e1, e2, e3, e4, e5, e6⟩ := HPI.out.wrote hszr HTK.out hC5 hG5 hV5
        have hO6 := hO5.mono hszr
        obtain ⟨An, cn, hvn, _, _⟩ := hO6.rbb
        have hms := cutS_count q (cutS q [] (l.take pos)).2 pre
        have hls := cutS_count q [] (l.take pos)
        rw [HPL.out] at hms
        rw [List.length_take] at hls
        obtain ⟨nm, hnm⟩ : ∃ n, (cutS q (cutS q [] (l.take pos)).2 pre).1.length = n := ⟨_, rfl⟩
        rw [hnm] at hvn hms
        subst hvn
        obtain ⟨vs, a5, b5, c5⟩ := e5
        obtain ⟨us, a6, b6, c6⟩ := hO6
        have hrv : RV w5 An us := row_reads (by rw [hnm] at a6; exact a6)
        have hone : ∀ u ∈ us, u.oneCell' = true := fun u hu => by
          obtain ⟨y, hy, hu2⟩ := List.getElem_of_mem hu
          obtain ⟨A', c', e, _⟩ := (c6 y u (by rw [List.getElem?_eq_getElem hy, hu2])).1.form
          rw [e]
          rfl
        have hb6 : us.length = nm := by rw [b6, hnm]
        have E1 := Lib.hid e1
        have E2 := Lib.hid e2
        have E3 := Lib.hid e3
        have E4 := Lib.hid e4
        have E6 := Lib.hid e6
        have A5 := Lib.hid a5
        have B5 := Lib.hid b5
        have C5 := Lib.hid c5
        have B6 := Lib.hid b6
        have C6 := Lib.hid c6
        have HRV := Lib.hid hrv
        have HONE := Lib.hid hone
        have HB6 := Lib.hid hb6
        have HNM := Lib.hid hnm
        have hsz5 : w.heap.size ≤ w5.heap.size := e6.size
        have hlsm : (cutS q [] (l.take pos)).1.length ≤ 8192 := by omega
        obtain ⟨ng, hng⟩ : ∃ n, (cutS q [] (l.take pos)).1.length = n := ⟨_, rfl⟩
        rw [hng] at hlsm
        have A5n : Hid (w5.ownsRow w.heap.size 23 1 u12 ng vs) := Lib.hid (by rw [← hng]; exact a5)
        have HNG := Lib.hid hng
        clear e1 e2 e3 e4 e6 a5 b5 c5 a6 b6 c6 hrv hone hb6 hO5 hC5 hG5 hV5 hls hnm hng
        go_wp2_with (at_builtin; refine wpList_app rfl _ _ 28 rfl w.heap.size 23 (.slice none 0 0) 24 Try.underlying28 infoS rfl (by decide) u12 ng vs rfl A5n.out _ _ _ us rfl HB6.out HRV.out HONE.out (by omega) hsz5 ?_)
        intro v7 w7 a7 hg7 hb7
        have hPI7 := PInv.joined (D := 0) E1.out E2.out E3.out E4.out HPI.out.apart E6.out HPI.out.kk HPI.out.rr HPI.out.wkb HPI.out.wrb hsz5 A5.out B5.out C5.out B6.out C6.out (cut_more HTK.out) (by rw [HNG.out, HNM.out]; exact a7) hg7 hb7
        have HPI7 := Lib.hid hPI7
        clear hPI7 a7 hg7 hb7 A5 A5n B5 C5 B6 C6 E1 E2 E3 E4 E6 HRV HONE HPI HW
        go_wp2
        exact ⟨⟨k + 1, pos + j, m - j, cm - j, _, vb', by omega, by go_num, rfl, by omega, by omega, HMP2, Lib.hid (HN.out _ (fun h => ⟨b1, o1, rfl, rfl⟩)).2, Lib.hid (HN.out _ (fun h => ⟨b1, o1, rfl, rfl⟩)).1, HPI7⟩, by simp [intOf]; omega⟩
    · obtain rfl : k = t.length := by omega
      obtain ⟨pre, hpre⟩ : ∃ pre, l.drop pos = pre := ⟨_, rfl⟩
      have HPL : Hid (pre.length = m) := Lib.hid (by rw [← hpre, List.length_drop]; have := HMP.out; omega)
      have HTK : Hid (l.take l.length = l.take pos ++ pre) := Lib.hid (by rw [← hpre, List.take_append_drop, List.take_length])
      have hszr : w.heap.size ≤ wr.heap.size := HPI.out.below.size
      have HW : Hid (RB wr R pre ∧ (0 < m → ∀ b o, R = some ⟨b, o, none⟩ → b ∉ own kb rb vb)) := Lib.hid ⟨by rw [← hpre]; exact HRR.out.ext HPI.out.below, fun h0 b o e hm => by
        obtain ⟨b', o', e', hlt⟩ := HRM.out h0
        rw [e'] at e
        injection e with e
        injection e with e1 _ _
        simp only [own, List.mem_cons] at hm
        rcases hm with hm | hm | hm
        · omega
        · omega
        · have := (HPI.out.b.o.lt b (by simpa using hm)).1
          omega⟩
      have hlt := cutS_lt q [] (l.take pos) (by simp)
      have hjn := cutS_join q [] (l.take pos)
      rw [List.nil_append] at hjn
      have HLT := Lib.hid hlt
      have HJN := Lib.hid hjn.symm
      clear hpre hlt hjn hk
      go_wp2_with fail
      refine (write_n HQ.out HJN.out HPI.out.b HLT.out hszr _ _ m pre HPL.out HW.out.1 HW.out.2 (by omega)).mono ?_
      rintro e w5 ⟨vn, vb', rfl, hO5, hC5, hG5, hV5⟩
      obtain ⟨e1, e2, e3, e4, e5, e6⟩ := HPI.out.wrote hszr HTK.out hC5 hG5 hV5
      have hO6 := hO5.mono hszr
      obtain ⟨An, cn, hvn, _, _⟩ := hO6.rbb
      have hms := cutS_count q (cutS q [] (l.take pos)).2 pre
      have hls := cutS_count q [] (l.take pos)
      rw [HPL.out] at hms
      rw [List.length_take] at hls
      obtain ⟨nm, hnm⟩ : ∃ n, (cutS q (cutS q [] (l.take pos)).2 pre).1.length = n := ⟨_, rfl⟩
      rw [hnm] at hvn hms
      subst hvn
      obtain ⟨vs, a5, b5, c5⟩ := e5
      obtain ⟨us, a6, b6, c6⟩ := hO6
      have hrv : RV w5 An us := row_reads (by rw [hnm] at a6; exact a6)
      have hone : ∀ u ∈ us, u.oneCell' = true := fun u hu => by
        obtain ⟨y, hy, hu2⟩ := List.getElem_of_mem hu
        obtain ⟨A', c', e, _⟩ := (c6 y u (by rw [List.getElem?_eq_getElem hy, hu2])).1.form
        rw [e]
        rfl
      have hb6 : us.length = nm := by rw [b6, hnm]
      have E1 := Lib.hid e1
      have E2 := Lib.hid e2
      have E3 := Lib.hid e3
      have E4 := Lib.hid e4
      have E6 := Lib.hid e6
      have A5 := Lib.hid a5
      have B5 := Lib.hid b5
      have C5 := Lib.hid c5
      have B6 := Lib.hid b6
      have C6 := Lib.hid c6
      have HRV := Lib.hid hrv
      have HONE := Lib.hid hone
      have HB6 := Lib.hid hb6
      have HNM := Lib.hid hnm
      have hsz5 : w.heap.size ≤ w5.heap.size := e6.size
      have hlsm : (cutS q [] (l.take pos)).1.length ≤ 8192 := by omega
      obtain ⟨ng, hng⟩ : ∃ n, (cutS q [] (l.take pos)).1.length = n := ⟨_, rfl⟩
      rw [hng] at hlsm
      have A5n : Hid (w5.ownsRow w.heap.size 23 1 u12 ng vs) := Lib.hid (by rw [← hng]; exact a5)
      have HNG := Lib.hid hng
      clear e1 e2 e3 e4 e6 a5 b5 c5 a6 b6 c6 hrv hone hb6 hO5 hC5 hG5 hV5 hls hnm hng
      go_wp2_with (at_builtin; refine wpList_app rfl _ _ 28 rfl w.heap.size 23 (.slice none 0 0) 24 Try.underlying28 infoS rfl (by decide) u12 ng vs rfl A5n.out _ _ _ us rfl HB6.out HRV.out HONE.out (by omega) hsz5 ?_)
      intro v7 w7 a7 hg7 hb7
      have hPI7 := PInv.joined (D := 0) E1.out E2.out E3.out E4.out HPI.out.apart E6.out HPI.out.kk HPI.out.rr HPI.out.wkb HPI.out.wrb hsz5 A5.out B5.out C5.out B6.out C6.out (cut_more HTK.out) (by rw [HNG.out, HNM.out]; exact a7) hg7 hb7
      have HPI7 := Lib.hid hPI7
      clear hPI7 a7 hg7 hb7 A5 A5n B5 C5 B6 C6 E1 E2 E3 E4 E6 HRV HONE HPI HW
      have hlt := cutS_lt q [] l (by simp)
      have hcut := cutS_count q [] l
      have hgot := HPI7.out.got
      have hcb := HPI7.out.b
      rw [List.take_length] at hgot hcb
      have hca := HPI7.out.a
      have hwant := HPI7.out.want
      have hbelow := HPI7.out.below
      have hkk := HPI7.out.kk
      have hrrr := HPI7.out.rr
      obtain ⟨outs, houts⟩ : ∃ s, (cutS q [] l).1 = s := ⟨_, rfl⟩
      obtain ⟨rest, hrest⟩ : ∃ s, (cutS q [] l).2 = s := ⟨_, rfl⟩
      rw [houts] at hgot hwant hcut
      rw [hrest] at hca hcb hlt
      obtain ⟨no, hno⟩ : ∃ n, outs.length = n := ⟨_, rfl⟩
      obtain ⟨nr, hnr⟩ : ∃ n, rest.length = n := ⟨_, rfl⟩
      obtain ⟨Ag, cg, hvg, _, hrg⟩ := hgot.rbb
      obtain ⟨Aw, cw, hvw, _, hrw⟩ := hwant.rbb
      rw [hno] at hvg hvw hcut
      rw [hnr] at hlt
      have HRG := Lib.hid hrg
      have HRW := Lib.hid hrw
      have HNO := Lib.hid hno
      have HNR := Lib.hid hnr
      have HCA := Lib.hid hca
      have HCB := Lib.hid hcb
      have HBL := Lib.hid hbelow
      have hsz7 : w.heap.size ≤ w7.heap.size := hbelow.size
      clear hgot hwant hrg hrw hno hnr hca hcb hbelow houts hrest HPI7
      subst hvg hvw
      go_wp2_with fail
      refine (same_calls Ag Aw cg cw no no outs outs HNO.out HNO.out w7 HRG.out HRW.out (by omega) (by omega)).mono ?_
      rintro e w8 ⟨rfl, rfl⟩
      rw [show (outs == outs) = true from by simp]
      go_wp2_with fail
      refine (pending_calls HCA.out).mono ?_
      rintro e w8 ⟨rfl, rfl⟩
      rw [HNR.out]
      go_wp2_with fail
      refine (pending_calls HCB.out).mono ?_
      rintro e w8 ⟨rfl, rfl⟩
      rw [HNR.out]
      go_wp2_with fail
      refine (flush_calls HCA.out (by rw [HNR.out]; omega)).mono ?_
      rintro e w8 ⟨ua, rfl, hua, hca8, hg8⟩
      have hcb8 := HCB.out.kept hg8 (fun e => hkk (Option.some.inj e)) (by
        obtain ⟨cs, hr⟩ := HCB.out.rb
        exact fun e => bk_ne HCA.out.c hr (by decide) (Option.some.inj e)) (fun e => HCA.out.gk (Option.some.inj e).symm) (.inr (own_ne_bk HCB.out.o HCA.out.c (by decide)))
      have hb8 : Below w.heap.size w w8 := below_grown HBL.out hg8 HBL.out.size wka
      have HUA := Lib.hid hua
      have HCA8 := Lib.hid hca8
      have HCB8 := Lib.hid hcb8
      have HB8 := Lib.hid hb8
      clear hua hca8 hg8 hcb8 hb8 HCA HCB HRG HRW HBL
      go_wp2_with fail
      refine (flush_calls HCB8.out (by rw [HNR.out]; omega)).mono ?_
      rintro e w9 ⟨ub, rfl, hub, hcb9, hg9⟩
      have hua9 := HUA.out.other hg9 (.inr (own_ne_bk HUA.out HCB8.out.c (by decide)))
      have hb9 : Below w.heap.size w w9 := below_grown HB8.out hg9 HB8.out.size wkb
      obtain ⟨Aa, ca, hva, hra9, _, _⟩ := hua9.form
      obtain ⟨Ab, cb, hvb, hrb9, _, _⟩ := hub.form
      have HRA := Lib.hid hra9
      have HRB := Lib.hid hrb9
      have HB9 := Lib.hid hb9
      clear hua9 hub hcb9 hg9 hb9 hra9 hrb9 HUA HCA8 HCB8 HB8
      subst hva hvb
      go_wp2_with fail
      refine (equal_calls Aa Ab ca cb rest rest w9 HRA.out HRB.out).mono ?_
      rintro e wa ⟨rfl, rfl⟩
      rw [show (rest == rest) = true from by simp]
      go_wp2_with fail
      refine (awake_calls w9).mono ?_
      rintro e wa ⟨rfl, hb⟩
      have HBa := Lib.hid (HB9.out.trans (hb.mono HB9.out.size))
      clear hb
      go_wp2
      go_ret
      exact ⟨rfl, HBa.out⟩
end Go.Proofs.Ytmohjgcnhibkoaa
