/- flumelaw13's pair: bytes go one way, and nothing is lost: more is written, the end, the beginning (plain). flumelaw13's pair: bytes go one way, and nothing is lost: how both find one another (plain). flumelaw13's TcpPieces: what its loop keeps (plain). -/
import Derived.Test.YtjhnnnklfhbebaaTkB
namespace Go.Proofs.Ytjhnnnklfhbebaa
open Go.RowKit
set_option linter.unusedVariables false
set_option linter.unusedSimpArgs false
/-- A side writes; a side closes. -/
def wrA (b : List UInt8) : ActA := ⟨6, 0, 0, 0, b, false⟩
def clA : ActA := ⟨9, 0, 0, 0, [], false⟩
namespace TS
variable {s t : TS} {iss irs u v x : Nat} {Wr rd b : List UInt8} {p : Pk}
theorem write_n (hs : s.shut = false) (h0 : s.state ≠ 0) (h4 : s.state ≠ 4) (h5 : s.state ≠ 5) (b : List UInt8) : s.write b = (min b.length (1024 - s.out.length), ({ s with out := s.out ++ b.take (min b.length (1024 - s.out.length)) } : TS).push) := by
  unfold TS.write
  rw [if_neg]
  rw [closed_of, hs]
  rintro (e | e | e | e)
  · exact h0 e
  · cases e
  · exact h5 e
  · exact h4 e
theorem la_write (h : LA iss irs Wr s x x) (hx : x = 1 + Wr.length) (hs : s.shut = false) (hpk : s.pack = []) (hbig : Wr.length ≤ 900000) :
    (s.write b).1 = min b.length 1024 ∧ ∃ y, LA iss irs (Wr ++ b.take (min b.length 1024)) (s.write b).2.empty x y ∧ (s.write b).2.shut = false ∧ (s.write b).2.state = 3 ∧ (s.write b).2.idle = s.idle ∧ Ln iss irs (Wr ++ b.take (min b.length 1024)) x (s.write b).2.pack y (2 * (s.write b).2.pack.length) ∧ (s.write b).2.pack.length ≤ 10 ∧ (y = 1 + (Wr ++ b.take (min b.length 1024)).length ∨ x < y) ∧ (y = 1 + (Wr ++ b.take (min b.length 1024)).length → (s.write b).2.pack.length ≤ 10) := by
  have ho : s.out = [] := by
    rw [h.out, List.drop_of_length_le]
    omega
  have hov : s.over = false := by
    rw [h.ov, decide_eq_false]
    omega
  rw [write_n hs (by rw [h.st]; decide) (by rw [h.st]; decide) (by rw [h.st]; decide), ho]
  have e0 : (1024 : Nat) - ([] : List UInt8).length = 1024 := rfl
  rw [e0]
  obtain ⟨c, hc⟩ : ∃ c, b.take (min b.length 1024) = c := ⟨_, rfl⟩
  have hcl : c.length ≤ 1024 := by rw [← hc, List.length_take]; omega
  rw [hc, List.nil_append]
  refine ⟨rfl, ?_⟩
  obtain ⟨s1, hs1⟩ : ∃ s1 : TS, s1 = { s with out := c } := ⟨_, rfl⟩
  show ∃ y, LA iss irs (Wr ++ c) (({ s with out := c } : TS).push).empty x y ∧ _
  rw [← hs1]
  have e1 : s1.una = x := by rw [hs1]; exact h.una
  have e2 : s1.nxt = x := by rw [hs1]; exact h.nxt
  have e3 : s1.top = x := by rw [hs1]; exact h.top
  have e4 : s1.out = c := by rw [hs1]
  have e5 : (s1.shut && !s1.over) = false := by
    rw [hs1]
    show (s.shut && !s.over) = false
    rw [hs]
    rfl
  have e6 : s1.off = 0 := by unfold TS.off; omega
  obtain ⟨ps, y, e, r1, r2, r3, r4, r5, r6⟩ := push_run (s := s1) (by rw [hs1]; exact h.st) (by omega) (by omega) (by rw [e6]; exact Nat.zero_le _)
  rw [e5, e1, e4] at r3
  rw [e2] at r1 r2 r5 r6
  have r3 : y ≤ x + c.length + 0 := r3
  have hpk1 : s1.pack = [] := by rw [hs1]; exact hpk
  have htop : max s1.top y = y := by omega
  rw [e, hpk1, List.nil_append, htop]
  have hwl : (Wr ++ c).length = Wr.length + c.length := List.length_append
  have hdr : (Wr ++ c).drop (x - 1) = c := by
    rw [List.drop_append, List.drop_of_length_le (by omega), List.nil_append, show x - 1 - Wr.length = 0 by omega, List.drop_zero]
  refine ⟨y, ⟨?_, ?_, ?_, ?_, ?_, ?_, ?_, ?_, e1, rfl, rfl, h.u1, r2, ?_, ?_, ?_, by omega, by omega, ?_⟩, ?_, ?_, ?_, ?_, ?_, ?_, ?_⟩
  · show s1.state = 3; rw [hs1]; exact h.st
  · show s1.iss = iss; rw [hs1]; exact h.nm
  · show s1.irs = irs; rw [hs1]; exact h.ir
  · show s1.rcv = 1; rw [hs1]; exact h.rcv
  · show s1.inn = []; rw [hs1]; exact h.inn
  · show s1.fin = false; rw [hs1]; exact h.fin
  · show s1.told = false; rw [hs1]; exact h.told
  · show s1.early = _; rw [hs1]; exact h.early
  · show s1.out = _; rw [e4, hdr]
  · show y ≤ 1 + (Wr ++ c).length + s1.shut.toNat
    omega
  · show s1.over = _
    rw [hs1]
    show s.over = _
    rw [hov, decide_eq_false]
    omega
  · show 896 ≤ s1.wnd; rw [hs1]; exact h.wnd
  · show s1.shut = false; rw [hs1]; exact hs
  · show s1.state = 3; rw [hs1]; exact h.st
  · show s1.idle = s.idle; rw [hs1]
  · show Ln iss irs (Wr ++ c) x ps y (2 * ps.length)
    unfold TS.Sent at r1
    rw [e1, e4, ← hdr, show s1.iss = iss by rw [hs1]; exact h.nm] at r1
    refine sent_ln s1.window ?_ h.u1 (by omega) ps (Nat.le_refl _) r1
    rw [hs1]
    show m32 (s.irs + s.rcv) = m32 (irs + 1)
    rw [h.ir, h.rcv]
  · show ps.length ≤ 10
    omega
  · by_cases hc0 : c.length = 0
    · left
      omega
    · right
      apply r6
      unfold TS.may
      rw [e4, e6, hs1]
      have := h.wnd
      show 0 < min (128 : Int) (min ((c.length : Int) - ((0 : Nat) : Int)) (s.wnd - ((0 : Nat) : Int)))
      omega
  · intro _
    show ps.length ≤ 10
    omega
theorem la_close (h : LA iss irs Wr s x x) (hx : x = 1 + Wr.length) (hs : s.shut = false) (hpk : s.pack = []) :
    LA iss irs Wr s.close.empty x (x + 1) ∧ s.close.shut = true ∧ s.close.state = 3 ∧ s.close.idle = s.idle ∧ Ln iss irs Wr x s.close.pack (x + 1) (2 * s.close.pack.length) ∧ s.close.pack.length ≤ 2 := by
  have ho : s.out = [] := by
    rw [h.out, List.drop_of_length_le]
    omega
  have hov : s.over = false := by
    rw [h.ov, decide_eq_false]
    omega
  have hcl : s.close = ({ s with shut := true } : TS).push := by
    unfold TS.close
    rw [if_pos ⟨by rw [h.st]; decide, by rw [h.st]; decide, hs⟩]
  rw [hcl]
  obtain ⟨s1, hs1⟩ : ∃ s1 : TS, s1 = { s with shut := true } := ⟨_, rfl⟩
  rw [← hs1]
  have e1 : s1.una = x := by rw [hs1]; exact h.una
  have e2 : s1.nxt = x := by rw [hs1]; exact h.nxt
  have e3 : s1.top = x := by rw [hs1]; exact h.top
  have e4 : s1.out = [] := by rw [hs1]; exact ho
  have e5 : (s1.shut && !s1.over) = true := by
    rw [hs1]
    show (true && !s.over) = true
    rw [hov]
    rfl
  have e6 : s1.off = 0 := by unfold TS.off; omega
  obtain ⟨ps, y, e, r1, r2, r3, r4, r5, r6⟩ := push_run (s := s1) (by rw [hs1]; exact h.st) (by omega) (by omega) (by rw [e6]; exact Nat.zero_le _)
  rw [e5, e1, e4] at r4
  have hw := h.wnd
  have hy : y = x + 1 := r4 (by rw [hs1]; show ((0 : Nat) : Int) ≤ s.wnd; omega)
  rw [e2] at r1 r5
  have hpk1 : s1.pack = [] := by rw [hs1]; exact hpk
  have htop : max s1.top y = y := by omega
  rw [e, hpk1, List.nil_append, htop]
  subst hy
  have hlim := h.lim
  refine ⟨⟨?_, ?_, ?_, ?_, ?_, ?_, ?_, ?_, e1, rfl, rfl, h.u1, by omega, ?_, ?_, ?_, hlim, h.big, ?_⟩, ?_, ?_, ?_, ?_, ?_⟩
  · show s1.state = 3; rw [hs1]; exact h.st
  · show s1.iss = iss; rw [hs1]; exact h.nm
  · show s1.irs = irs; rw [hs1]; exact h.ir
  · show s1.rcv = 1; rw [hs1]; exact h.rcv
  · show s1.inn = []; rw [hs1]; exact h.inn
  · show s1.fin = false; rw [hs1]; exact h.fin
  · show s1.told = false; rw [hs1]; exact h.told
  · show s1.early = _; rw [hs1]; exact h.early
  · show s1.out = _; rw [hs1]; exact h.out
  · show x + 1 ≤ 1 + Wr.length + s1.shut.toNat
    rw [hs1]
    show x + 1 ≤ 1 + Wr.length + 1
    omega
  · show s1.over = _
    rw [hs1]
    exact h.ov
  · show 896 ≤ s1.wnd; rw [hs1]; exact h.wnd
  · show s1.shut = true; rw [hs1]
  · show s1.state = 3; rw [hs1]; exact h.st
  · show s1.idle = s.idle; rw [hs1]
  · show Ln iss irs Wr x ps (x + 1) (2 * ps.length)
    unfold TS.Sent at r1
    rw [e1, e4, ← ho, h.out, show s1.iss = iss by rw [hs1]; exact h.nm] at r1
    refine sent_ln s1.window ?_ h.u1 (by omega) ps (Nat.le_refl _) r1
    rw [hs1]
    show m32 (s.irs + s.rcv) = m32 (irs + 1)
    rw [h.ir, h.rcv]
  · show ps.length ≤ 2
    omega
end TS
section
variable {iss irs τ u0 u v x f : Nat} {P Q : PS} {b : List UInt8}
theorem sideN_wr : sideN (wrA b) = 0 := by
  show (bits .and .i64 0 1).toNat = 0
  decide +kernel
theorem does_wr (hp : (P.c 1).pack = []) (hz : ((P.c 0).write b).2.state = 0 → ((P.c 0).write b).2.pack = []) (hl : (P.bag 1).length + ((P.c 0).write b).2.pack.length ≤ 300) :
    Left P (P.does (wrA b)) 0 ((P.c 0).write b).2 (P.bag 0) (P.wr 0 ++ b.take ((P.c 0).write b).1) (P.rd 0) := by
  have e : P.does0 (wrA b) = (P.setC 0 ((P.c 0).write b).2).setW 0 (P.wr 0 ++ b.take ((P.c 0).write b).1) := by
    have e1 : opN (wrA b) = 6 := rfl
    unfold PS.does0
    rw [sideN_wr, e1]
    rfl
  have hc : ((P.setC 0 ((P.c 0).write b).2).setW 0 (P.wr 0 ++ b.take ((P.c 0).write b).1)).c 0 = ((P.c 0).write b).2 := by
    show fset P.c 0 ((P.c 0).write b).2 0 = _
    exact fset_at _ _ _
  have hw : ((P.setC 0 ((P.c 0).write b).2).setW 0 (P.wr 0 ++ b.take ((P.c 0).write b).1)).wr 0 = P.wr 0 ++ b.take ((P.c 0).write b).1 := by
    show fset P.wr 0 (P.wr 0 ++ b.take ((P.c 0).write b).1) 0 = _
    exact fset_at _ _ _
  have := out_one (P := P) (Q := (P.setC 0 ((P.c 0).write b).2).setW 0 (P.wr 0 ++ b.take ((P.c 0).write b).1)) (i := 0) (by omega) hp (by rw [hc]; exact hz) (by show fset P.c 0 ((P.c 0).write b).2 1 = _; exact fset_no _ _ (by decide)) rfl (by show fset P.wr 0 (P.wr 0 ++ b.take ((P.c 0).write b).1) 1 = _; exact fset_no _ _ (by decide)) rfl rfl (by rw [hc]; exact hl)
  rw [hc, hw] at this
  unfold PS.does
  rw [e]
  exact this
theorem does_cl (hp : (P.c 1).pack = []) (hz : (P.c 0).close.state = 0 → (P.c 0).close.pack = []) (hl : (P.bag 1).length + (P.c 0).close.pack.length ≤ 300) :
    Left P (P.does clA) 0 (P.c 0).close (P.bag 0) (P.wr 0) (P.rd 0) := by
  have e : P.does0 clA = P.setC 0 (P.c 0).close := by
    have e1 : opN clA = 9 := rfl
    have e2 : sideN clA = 0 := rfl
    unfold PS.does0
    rw [e2, e1]
    rfl
  have hc : (P.setC 0 (P.c 0).close).c 0 = (P.c 0).close := by
    show fset P.c 0 (P.c 0).close 0 = _
    exact fset_at _ _ _
  have := out_one (P := P) (Q := P.setC 0 (P.c 0).close) (i := 0) (by omega) hp (by rw [hc]; exact hz) (by show fset P.c 0 (P.c 0).close 1 = _; exact fset_no _ _ (by decide)) rfl rfl rfl rfl (by rw [hc]; exact hl)
  rw [hc] at this
  unfold PS.does
  rw [e]
  exact this
theorem b0_more {Wr Wr' : List UInt8} {v : Nat} (hv : (1 + Wr'.length : Int) ≤ (v : Int) + 1024) : ∀ (ps : List Pk) {w : Nat}, (∀ p, p ∈ ps → p.wn = 1024) → B0 iss irs Wr v v ps w → B0 iss irs Wr' v v ps w
  | [], w, _, h => h
  | p :: r, w, hw, h => by
    obtain ⟨a1, a2, a3, k, w', h1, h2, h3, h4, h5⟩ := h
    have hkv : k = v := by
      have := (b0_len r h5).2
      omega
    subst hkv
    refine ⟨a1, a2, a3, k, w', h1, h2, ?_, h4, b0_more hv r (fun p hp => hw p (.tail _ hp)) h5⟩
    rw [hw p (.head _)]
    exact hv
theorem LB.more {Wr : List UInt8} {t : TS} {v : Nat} {rd : List UInt8} (h : LB iss irs Wr t v rd) (c : List UInt8) (hv : v ≤ 1 + Wr.length) : LB iss irs (Wr ++ c) t v rd := by
  refine ⟨h.st, h.nm, h.ir, h.out, h.shut, h.over, h.top, h.una, h.inn, h.rcv, ?_, ?_, ?_⟩
  · rcases h.rq with e | ⟨_, e1, e2⟩
    · exact .inl e
    · omega
  · rw [List.take_append_of_le_length h.rdl]
    exact h.rdw
  · rw [List.length_append]
    have := h.rdl
    omega
/-- More is written. -/
theorem QT.write (h : QT iss irs τ P x) (hs : (P.c 0).shut = false) (hbig : (P.wr 0).length ≤ 900000) (b : List UInt8) : ∃ y, LP iss irs τ x (P.does (wrA b)) x x y 46 [] ∧ (P.does (wrA b)).wr 0 = P.wr 0 ++ b.take (min b.length 1024) ∧ ((P.does (wrA b)).c 0).shut = false := by
  obtain ⟨m, pg⟩ := h.lp.pg
  have hl := h.lp.len
  have p0 := pg.fine.empty 0 (by omega)
  have p1 := pg.fine.empty 1 (by omega)
  have hx : x = 1 + (P.wr 0).length := by
    have := h.xe
    rw [hs] at this
    exact this
  obtain ⟨w1, y, w2, w3, w4, w5, w6, w7, w8, w9⟩ := TS.la_write (b := b) h.lp.a hx hs p0 hbig
  have hL := does_wr (P := P) (b := b) p1 (by rw [w4]; intro e; cases e) (by omega)
  rw [w1] at hL
  have hc0 : (P.does (wrA b)).c 0 = ((P.c 0).write b).2.empty := hL.c
  have hc1 : (P.does (wrA b)).c 1 = P.c 1 := hL.co
  have hb0 : (P.does (wrA b)).bag 0 = P.bag 0 := hL.bag
  have hb1 : (P.does (wrA b)).bag 1 = P.bag 1 ++ ((P.c 0).write b).2.pack := hL.bago
  have hwr : (P.does (wrA b)).wr 0 = P.wr 0 ++ b.take (min b.length 1024) := hL.wr
  have hrd : (P.does (wrA b)).rd 1 = P.rd 1 := hL.rdo
  have hst : ((P.does (wrA b)).c 0).shut = false := by rw [hc0]; exact w3
  obtain ⟨c, hc⟩ : ∃ c, b.take (min b.length 1024) = c := ⟨_, rfl⟩
  have hcl : c.length ≤ 1024 := by rw [← hc, List.length_take]; omega
  rw [hc] at w2 w6 w8 hwr
  have hwl : (P.wr 0 ++ c).length = (P.wr 0).length + c.length := List.length_append
  rw [hc]
  refine ⟨y, ⟨⟨_, pg.does _⟩, ?_, ?_, ?_, Nat.zero_le _, ?_, .inl rfl, ?_, ?_, ?_, ?_⟩, hwr, hst⟩
  · rw [hc0, hwr]; exact w2
  · rw [hc1, hwr, hrd]
    exact h.lp.b.more c (by omega)
  · rw [hc1]; exact h.lp.bi
  · rw [hb0, hb1, hwr]
    obtain ⟨z1, z0, l1, l0, hw⟩ := h.lp.ln
    refine ⟨z1 + 2 * ((P.c 0).write b).2.pack.length, z0, ln_app _ (ln_more c _ (by omega) l1) w6, b0_more (by omega) _ h.wn l0, ?_⟩
    have : (if y = 1 + (P.wr 0 ++ c).length + ((P.does (wrA b)).c 0).shut.toNat then 0 else 22) ≤ 22 := by split <;> omega
    omega
  · rw [hwr, hst]
    rcases w8 with e | e
    · exact .inl e
    · exact .inr (.inr e)
  · rw [hc1, hb1]
    intro e
    have := h.lp.two e
    cases ep : P.bag 1 with
    | nil => exact absurd ep this
    | cons z zs => intro e; cases e
  · rw [hc0]
    refine ⟨?_, fun e => absurd e (Nat.lt_irrefl _)⟩
    show ((P.c 0).write b).2.idle ≤ τ
    rw [w5]
    exact h.lp.ia.1
  · rw [hc1]; exact h.lp.ib
/-- The end. -/
theorem QT.close (h : QT iss irs τ P x) (hs : (P.c 0).shut = false) : LP iss irs τ x (P.does clA) x x (x + 1) 46 [] ∧ (P.does clA).wr 0 = P.wr 0 ∧ ((P.does clA).c 0).shut = true := by
  obtain ⟨m, pg⟩ := h.lp.pg
  have hl := h.lp.len
  have p0 := pg.fine.empty 0 (by omega)
  have p1 := pg.fine.empty 1 (by omega)
  have hx : x = 1 + (P.wr 0).length := by
    have := h.xe
    rw [hs] at this
    exact this
  obtain ⟨w2, w3, w4, w5, w6, w7⟩ := TS.la_close h.lp.a hx hs p0
  have hL := does_cl (P := P) p1 (by rw [w4]; intro e; cases e) (by omega)
  have hc0 : (P.does clA).c 0 = (P.c 0).close.empty := hL.c
  have hc1 : (P.does clA).c 1 = P.c 1 := hL.co
  have hb0 : (P.does clA).bag 0 = P.bag 0 := hL.bag
  have hb1 : (P.does clA).bag 1 = P.bag 1 ++ (P.c 0).close.pack := hL.bago
  have hwr : (P.does clA).wr 0 = P.wr 0 := hL.wr
  have hrd : (P.does clA).rd 1 = P.rd 1 := hL.rdo
  have hst : ((P.does clA).c 0).shut = true := by rw [hc0]; exact w3
  refine ⟨⟨⟨_, pg.does _⟩, ?_, ?_, ?_, Nat.zero_le _, ?_, .inl rfl, ?_, ?_, ?_, ?_⟩, hwr, hst⟩
  · rw [hc0, hwr]; exact w2
  · rw [hc1, hwr, hrd]; exact h.lp.b
  · rw [hc1]; exact h.lp.bi
  · rw [hb0, hb1, hwr]
    obtain ⟨z1, z0, l1, l0, hw⟩ := h.lp.ln
    refine ⟨z1 + 2 * (P.c 0).close.pack.length, z0, ln_app _ l1 w6, l0, ?_⟩
    have : (if x + 1 = 1 + (P.wr 0).length + ((P.does clA).c 0).shut.toNat then 0 else 22) ≤ 22 := by split <;> omega
    omega
  · rw [hwr, hst]
    left
    show x + 1 = 1 + (P.wr 0).length + 1
    omega
  · rw [hc1, hb1]
    intro e
    have := h.lp.two e
    cases ep : P.bag 1 with
    | nil => exact absurd ep this
    | cons z zs => intro e; cases e
  · rw [hc0]
    refine ⟨?_, fun e => absurd e (Nat.lt_irrefl _)⟩
    show (P.c 0).close.idle ≤ τ
    rw [w5]
    exact h.lp.ia.1
  · rw [hc1]; exact h.lp.ib
/-- All is read, and the end is told. -/
theorem QT.done (h : QT iss irs τ P x) (hs : (P.c 0).shut = true) : (P.c 1).fin = true ∧ P.rd 1 = P.wr 0 ∧ (P.c 1).state ≠ 0 := by
  have hx : x = 1 + (P.wr 0).length + 1 := by
    have := h.xe
    rw [hs] at this
    exact this
  have hB := h.lp.b
  rw [List.append_nil] at hB
  have hl := hB.rdl
  rcases hB.rq with ⟨_, _, _, e⟩ | ⟨e1, e2, e3⟩
  · omega
  · refine ⟨e1, ?_, ?_⟩
    · have := hB.rdw
      rw [e3, List.take_length] at this
      exact this
    · have e : (P.c 1).state = 3 ∨ (P.c 1).state = 2 := hB.st
      omega
end
end Go.Proofs.Ytjhnnnklfhbebaa
namespace Go.Proofs.Ytjhnnnklfhbebaa
open Go.RowKit
set_option linter.unusedVariables false
set_option linter.unusedSimpArgs false
/-- One has asked, and the question is under way. -/
structure IS (iss irs : Nat) (Wr : List UInt8) (z : Bool) (P : PS) : Prop where
  pg : ∃ m, PGood P m
  st : (P.c 0).state = 1
  nm : (P.c 0).iss = iss
  una : (P.c 0).una = 0
  nxt : (P.c 0).nxt = 1
  top : (P.c 0).top = 1
  out : (P.c 0).out = Wr
  shut : (P.c 0).shut = z
  over : (P.c 0).over = false
  inn : (P.c 0).inn = []
  early : (P.c 0).early = List.replicate 1024 none
  told : (P.c 0).told = false
  fin : (P.c 0).fin = false
  idle : (P.c 0).idle = 0
  len : Wr.length ≤ 1024
  c1 : P.c 1 = TS.zero
  b0 : P.bag 0 = []
  b1 : ∃ p, P.bag 1 = [p] ∧ p.fl = 1 ∧ p.seq = iss ∧ p.data = []
  wr : P.wr 0 = Wr
  rd : P.rd 1 = []
  num : P.iss = irs
section
variable {iss irs : Nat} {Wr : List UInt8} {z : Bool} {P Q : PS} {b : List UInt8} {i : Nat}
/-- Where nothing has come, reading changes nothing. -/
theorem rd_same (hi : i < 2) (hp : ∀ j, j < 2 → (P.c j).pack = []) (h0 : (P.c i).state ≠ 0) (hn : (P.c i).inn = []) (hl : (P.bag (1 - i)).length ≤ 300) : Same P (P.does (rdA i)) := by
  have e := TS.read_none h0 hn 5000
  have pi := hp i hi
  have hL := does_rd (P := P) hi (hp _ (by omega)) (by rw [e]; intro _; exact pi) (by
    rw [e]
    show (P.bag (1 - i)).length + (P.c i).pack.length ≤ 300
    rw [pi]
    show (P.bag (1 - i)).length + 0 ≤ 300
    omega)
  rw [e] at hL
  have hc : (P.does (rdA i)).c i = P.c i := by rw [hL.c]; exact TS.empty_eq pi
  have hbo : (P.does (rdA i)).bag (1 - i) = P.bag (1 - i) := by
    have := hL.bago
    rw [show (P.c i).pack = [] from pi, List.append_nil] at this
    exact this
  have hr : (P.does (rdA i)).rd i = P.rd i := by
    have := hL.rd
    rw [List.append_nil] at this
    exact this
  have two : ∀ j, j < 2 → j = i ∨ j = 1 - i := fun j hj => by omega
  refine ⟨fun j hj => ?_, fun j hj => ?_, fun j hj => ?_, fun j hj => ?_⟩ <;> rcases two j hj with rfl | rfl
  · exact hc
  · exact hL.co
  · exact hL.bag
  · exact hbo
  · exact hL.wr
  · exact hL.wro
  · exact hr
  · exact hL.rdo
theorem begun_is (hi : iss < 4294967296) (hr : irs < 4294967296) : IS iss irs [] false (PS.begun iss irs) := by
  have hL := out_one (P := PS.asked (askS iss) irs) (Q := PS.asked (askS iss) irs) (i := 0) (by omega) rfl (fun h => absurd (show (1 : Nat) = 0 from h) (by decide)) rfl rfl rfl rfl rfl (show 0 + 1 ≤ 300 by decide)
  have hc0 : (PS.begun iss irs).c 0 = (askS iss).empty := hL.c
  have hc1 : (PS.begun iss irs).c 1 = TS.zero := hL.co
  have hb0 : (PS.begun iss irs).bag 0 = [] := hL.bag
  have hb1 : (PS.begun iss irs).bag 1 = (askS iss).pack := hL.bago
  refine ⟨⟨0, begun_good hi hr⟩, ?_, ?_, ?_, ?_, ?_, ?_, ?_, ?_, ?_, ?_, ?_, ?_, ?_, Nat.zero_le _, hc1, hb0, ⟨_, hb1, rfl, rfl, rfl⟩, hL.wr, hL.rdo, hL.iss⟩ <;> rw [hc0] <;> rfl
theorem IS.write (h : IS iss irs [] false P) (b : List UInt8) : IS iss irs (b.take (min b.length 1024)) false (P.does (wrA b)) := by
  obtain ⟨m, pg⟩ := h.pg
  have p0 := pg.fine.empty 0 (by omega)
  have p1 := pg.fine.empty 1 (by omega)
  have e := TS.write_n h.shut (by rw [h.st]; decide) (by rw [h.st]; decide) (by rw [h.st]; decide) b
  rw [h.out] at e
  have e0 : (1024 : Nat) - ([] : List UInt8).length = 1024 := rfl
  rw [e0, List.nil_append] at e
  have hpu : ({ P.c 0 with out := b.take (min b.length 1024) } : TS).push = { P.c 0 with out := b.take (min b.length 1024) } := by
    unfold TS.push
    rw [if_neg]
    show ¬ (P.c 0).state = 3
    rw [h.st]
    decide
  rw [hpu] at e
  obtain ⟨p, hb1, f1, f2, f3⟩ := h.b1
  have hL := does_wr (P := P) (b := b) p1 (by
    rw [e]
    intro hz
    exact p0) (by
    rw [e, hb1]
    show 1 + (P.c 0).pack.length ≤ 300
    rw [p0]
    decide)
  rw [e] at hL
  have hc0 : (P.does (wrA b)).c 0 = { P.c 0 with out := b.take (min b.length 1024) } := by
    rw [hL.c]
    exact TS.empty_eq p0
  have hb1' : (P.does (wrA b)).bag 1 = [p] := by
    have := hL.bago
    rw [show P.bag (1 - 0) = [p] from hb1, show ({ P.c 0 with out := b.take (min b.length 1024) } : TS).pack = [] from p0] at this
    exact this
  refine ⟨⟨_, pg.does _⟩, ?_, ?_, ?_, ?_, ?_, ?_, ?_, ?_, ?_, ?_, ?_, ?_, ?_, ?_, hL.co.trans h.c1, hL.bag.trans h.b0, ⟨p, hb1', f1, f2, f3⟩, ?_, hL.rdo.trans h.rd, hL.iss.trans h.num⟩
  · rw [hc0]; exact h.st
  · rw [hc0]; exact h.nm
  · rw [hc0]; exact h.una
  · rw [hc0]; exact h.nxt
  · rw [hc0]; exact h.top
  · rw [hc0]
  · rw [hc0]; exact h.shut
  · rw [hc0]; exact h.over
  · rw [hc0]; exact h.inn
  · rw [hc0]; exact h.early
  · rw [hc0]; exact h.told
  · rw [hc0]; exact h.fin
  · rw [hc0]; exact h.idle
  · rw [List.length_take]
    omega
  · have := hL.wr
    rw [h.wr, List.nil_append] at this
    exact this
theorem IS.close (h : IS iss irs Wr false P) : IS iss irs Wr true (P.does clA) := by
  obtain ⟨m, pg⟩ := h.pg
  have p0 := pg.fine.empty 0 (by omega)
  have p1 := pg.fine.empty 1 (by omega)
  have e : (P.c 0).close = { P.c 0 with shut := true } := by
    unfold TS.close
    rw [if_pos ⟨by rw [h.st]; decide, by rw [h.st]; decide, h.shut⟩]
    unfold TS.push
    rw [if_neg]
    show ¬ (P.c 0).state = 3
    rw [h.st]
    decide
  obtain ⟨p, hb1, f1, f2, f3⟩ := h.b1
  have hL := does_cl (P := P) p1 (by
    rw [e]
    intro hz
    exact p0) (by
    rw [e, hb1]
    show 1 + (P.c 0).pack.length ≤ 300
    rw [p0]
    decide)
  rw [e] at hL
  have hc0 : (P.does clA).c 0 = { P.c 0 with shut := true } := by
    rw [hL.c]
    exact TS.empty_eq p0
  have hb1' : (P.does clA).bag 1 = [p] := by
    have := hL.bago
    rw [show P.bag (1 - 0) = [p] from hb1, show ({ P.c 0 with shut := true } : TS).pack = [] from p0] at this
    exact this
  refine ⟨⟨_, pg.does _⟩, ?_, ?_, ?_, ?_, ?_, ?_, ?_, ?_, ?_, ?_, ?_, ?_, ?_, h.len, hL.co.trans h.c1, hL.bag.trans h.b0, ⟨p, hb1', f1, f2, f3⟩, hL.wr.trans h.wr, hL.rdo.trans h.rd, hL.iss.trans h.num⟩
  · rw [hc0]; exact h.st
  · rw [hc0]; exact h.nm
  · rw [hc0]; exact h.una
  · rw [hc0]; exact h.nxt
  · rw [hc0]; exact h.top
  · rw [hc0]; exact h.out
  · rw [hc0]
  · rw [hc0]; exact h.over
  · rw [hc0]; exact h.inn
  · rw [hc0]; exact h.early
  · rw [hc0]; exact h.told
  · rw [hc0]; exact h.fin
  · rw [hc0]; exact h.idle
/-- Behind the question: the other one has been asked. -/
structure JS (iss irs : Nat) (Wr : List UInt8) (z : Bool) (P : PS) : Prop where
  pg : ∃ m, PGood P m
  st : (P.c 0).state = 1
  nm : (P.c 0).iss = iss
  una : (P.c 0).una = 0
  nxt : (P.c 0).nxt = 1
  top : (P.c 0).top = 1
  out : (P.c 0).out = Wr
  shut : (P.c 0).shut = z
  over : (P.c 0).over = false
  inn : (P.c 0).inn = []
  early : (P.c 0).early = List.replicate 1024 none
  told : (P.c 0).told = false
  fin : (P.c 0).fin = false
  len : Wr.length ≤ 1024
  b : LB iss irs Wr (P.c 1) 1 []
  i1 : (P.c 1).idle = 0
  b1 : P.bag 1 = []
  b0 : ∃ q, P.bag 0 = [q] ∧ q.fl = 3 ∧ q.seq = irs ∧ q.ack = m32 (iss + 1) ∧ q.wn = 1024
  wr : P.wr 0 = Wr
  rd : P.rd 1 = []
theorem JS.same (h : JS iss irs Wr z P) (e : Same P Q) (hg : ∃ m, PGood Q m) : JS iss irs Wr z Q := by
  have c0 := e.c 0 (by omega)
  have c1 := e.c 1 (by omega)
  have b0 := e.bag 0 (by omega)
  have b1 := e.bag 1 (by omega)
  have w := e.wr 0 (by omega)
  have r := e.rd 1 (by omega)
  exact ⟨hg, by rw [c0]; exact h.st, by rw [c0]; exact h.nm, by rw [c0]; exact h.una, by rw [c0]; exact h.nxt, by rw [c0]; exact h.top, by rw [c0]; exact h.out, by rw [c0]; exact h.shut, by rw [c0]; exact h.over, by rw [c0]; exact h.inn, by rw [c0]; exact h.early, by rw [c0]; exact h.told, by rw [c0]; exact h.fin, h.len, by rw [c1]; exact h.b, by rw [c1]; exact h.i1, by rw [b1]; exact h.b1, by rw [b0]; exact h.b0, by rw [w]; exact h.wr, by rw [r]; exact h.rd⟩
theorem IS.iter (h : IS iss irs Wr z P) : JS iss irs Wr z P.iter := by
  obtain ⟨m, pg⟩ := h.pg
  have p0 := pg.fine.empty 0 (by omega)
  have p1 := pg.fine.empty 1 (by omega)
  obtain ⟨p, hb1, f1, f2, f3⟩ := h.b1
  have hok := (pg.fine.bok 1 (by omega) p (by rw [hb1]; exact .head _)).1
  obtain ⟨s2, hs2⟩ : ∃ s2 : TS, s2 = ({ ({ TS.zero with src := p.dst, dst := p.src, sp := p.dp, dp := p.sp, state := 2 } : TS).start irs with irs := p.seq, rcv := 1, wnd := p.wn } : TS).syn := ⟨_, rfl⟩
  have hacc : TS.accept p P.iss = some s2 := by
    unfold TS.accept
    rw [if_neg (by
      rintro (e | e)
      · rw [hok] at e; cases e
      · exact e f1), h.num, hs2]
  have hpk : s2.pack = [({ ({ TS.zero with src := p.dst, dst := p.src, sp := p.dp, dp := p.sp, state := 2 } : TS).start irs with irs := p.seq, rcv := 1, wnd := p.wn } : TS).mkp 3 irs []] := by rw [hs2]; rfl
  have hst2 : s2.state = 2 := by rw [hs2]; rfl
  have e : P.does0 (gvA 1) = { P.lose 1 0 with c := fset P.c 1 s2 } := by
    have e1 : opN (gvA 1) = 0 := rfl
    have e2 : u64N (gvA 1).at_ = 0 := rfl
    unfold PS.does0
    rw [sideN_gv (by omega), e1, e2]
    dsimp only
    rw [if_neg (by decide), if_neg (by decide), if_neg (by decide), if_neg (by decide), if_neg (by decide), hb1, if_neg (show ¬ [p].length = 0 from fun e => absurd (show (1 : Nat) = 0 from e) (by decide)), if_neg (by decide)]
    unfold PS.comes
    rw [hb1]
    show (P.lose 1 0).takes 1 p = _
    unfold PS.takes
    rw [if_pos ⟨rfl, by show (P.c 1).state = 0; rw [h.c1]; rfl⟩, show (P.lose 1 0).iss = P.iss from rfl, hacc]
    rfl
  obtain ⟨R0, hR0⟩ : ∃ R0 : PS, R0 = { P.lose 1 0 with c := fset P.c 1 s2 } := ⟨_, rfl⟩
  have r1 : R0.c 1 = s2 := by rw [hR0]; show fset P.c 1 s2 1 = _; exact fset_at _ _ _
  have r2 : R0.c 0 = P.c 0 := by rw [hR0]; show fset P.c 1 s2 0 = _; exact fset_no _ _ (by decide)
  have r3 : R0.bag 1 = [] := by
    rw [hR0]
    show fset P.bag 1 ((P.bag 1).eraseIdx 0) 1 = _
    rw [fset_at, hb1]
    rfl
  have r4 : R0.bag 0 = P.bag 0 := by
    rw [hR0]
    show fset P.bag 1 ((P.bag 1).eraseIdx 0) 0 = _
    exact fset_no _ _ (by decide)
  have hL := out_one (P := P) (Q := R0) (i := 1) (by omega) p0 (by rw [r1, hst2]; intro e; cases e) r2 r4 (by rw [hR0]; rfl) (by rw [hR0]; rfl) (by rw [hR0]; rfl) (by
    rw [r1, hpk]
    show (P.bag 0).length + 1 ≤ 300
    rw [h.b0]
    decide)
  have hdo : P.does (gvA 1) = R0.out := by
    unfold PS.does
    rw [e, hR0]
  rw [← hdo, r1, r3] at hL
  have hc0 : (P.does (gvA 1)).c 0 = P.c 0 := hL.co
  have hc1 : (P.does (gvA 1)).c 1 = s2.empty := hL.c
  have hbg1 : (P.does (gvA 1)).bag 1 = [] := hL.bag
  have hbg0 : (P.does (gvA 1)).bag 0 = s2.pack := by
    have := hL.bago
    rw [show P.bag (1 - 1) = [] from h.b0, List.nil_append] at this
    exact this
  have hwr : (P.does (gvA 1)).wr 0 = P.wr 0 := hL.wro
  have hrd : (P.does (gvA 1)).rd 1 = P.rd 1 := by
    have := hL.rd
    rw [this, hR0]
    rfl
  have hJ : JS iss irs Wr z (P.does (gvA 1)) := by
    refine ⟨⟨_, pg.does _⟩, by rw [hc0]; exact h.st, by rw [hc0]; exact h.nm, by rw [hc0]; exact h.una, by rw [hc0]; exact h.nxt, by rw [hc0]; exact h.top, by rw [hc0]; exact h.out, by rw [hc0]; exact h.shut, by rw [hc0]; exact h.over, by rw [hc0]; exact h.inn, by rw [hc0]; exact h.early, by rw [hc0]; exact h.told, by rw [hc0]; exact h.fin, h.len, ?_, ?_, hbg1, ?_, hwr.trans h.wr, hrd.trans h.rd⟩
    · rw [hc1, hs2]
      refine ⟨.inr rfl, rfl, f2, rfl, rfl, rfl, rfl, fun e => ?_, rfl, rfl, .inl ⟨rfl, rfl, rfl, rfl⟩, rfl, Nat.zero_le _⟩
      have e : (2 : Nat) = 3 := e
      cases e
    · rw [hc1, hs2]
      rfl
    · rw [hbg0, hpk]
      refine ⟨_, rfl, rfl, rfl, ?_, rfl⟩
      show m32 (p.seq + 1) = _
      rw [f2]
  have q0 := hJ.pg
  obtain ⟨m1, pg1⟩ := hJ.pg
  have s1 : Same (P.does (gvA 1)) ((P.does (gvA 1)).does (rdA 0)) := rd_same (by omega) (fun j hj => pg1.fine.empty j hj) (by rw [hJ.st]; decide) hJ.inn (by
    show ((P.does (gvA 1)).bag 1).length ≤ 300
    rw [hbg1]
    decide)
  have hJ1 := hJ.same s1 ⟨_, pg1.does _⟩
  obtain ⟨m2, pg2⟩ := hJ1.pg
  have s2' : Same ((P.does (gvA 1)).does (rdA 0)) (((P.does (gvA 1)).does (rdA 0)).does (rdA 1)) := rd_same (by omega) (fun j hj => pg2.fine.empty j hj) (by
    have := hJ1.b.st
    omega) hJ1.b.inn (by
    obtain ⟨q, hq, _⟩ := hJ1.b0
    show (((P.does (gvA 1)).does (rdA 0)).bag 0).length ≤ 300
    rw [hq]
    exact (show (1 : Nat) ≤ 300 by decide))
  have hJ2 := hJ1.same s2' ⟨_, pg2.does _⟩
  unfold PS.iter
  rw [if_pos (by rw [h.b0]; rfl)]
  exact hJ2
/-- The answer comes. -/
theorem JS.iter (h : JS iss irs Wr z P) (hir : irs < 4294967296) : LP iss irs 0 0 P.iter 1 1 (1 + Wr.length + z.toNat) 21 [] ∧ P.iter.wr 0 = Wr ∧ (P.iter.c 0).shut = z := by
  obtain ⟨m, pg⟩ := h.pg
  have p0 := pg.fine.empty 0 (by omega)
  have p1 := pg.fine.empty 1 (by omega)
  obtain ⟨q, hb0, f1, f2, f3, f4⟩ := h.b0
  have hok := (pg.fine.bok 0 (by omega) q (by rw [hb0]; exact .head _)).1
  have hz : z.toNat ≤ 1 := by cases z <;> decide
  have hlen := h.len
  obtain ⟨s, hs⟩ : ∃ s, P.c 0 = s := ⟨_, rfl⟩
  have hst := h.st
  have hnm := h.nm
  rw [hs] at hst hnm p0
  obtain ⟨s3, hs3⟩ : ∃ s3 : TS, s3 = (({ s with idle := 0, irs := q.seq, rcv := 1, wnd := q.wn } : TS).opened).ack := ⟨_, rfl⟩
  have htk : s.take q = s3.push := by
    have g2 : hasF q 2 = true := by rw [hasFl f1]; decide +kernel
    have g8 : hasF q 8 = false := by rw [hasFl f1]; decide +kernel
    have g1 : hasF q 1 = true := by rw [hasFl f1]; decide +kernel
    unfold TS.take
    rw [if_neg (by
      rintro (e | e)
      · omega
      · rw [hok] at e; cases e)]
    dsimp only
    rw [if_neg (by omega), if_pos hst]
    unfold TS.answered
    have hy : decide (q.ack = ({ s with idle := 0 } : TS).num 1) = true := by
      rw [decide_eq_true_eq]
      show q.ack = m32 (s.iss + 1)
      rw [f3, hnm]
    dsimp only
    rw [g2, hy, g8, g1, if_neg (by decide), if_neg (by decide), if_pos (by decide), hs3]
  have e1 : s3.una = 1 := by rw [hs3]; rfl
  have e2 : s3.nxt = 1 := by rw [hs3]; rfl
  have e3 : s3.top = 1 := by rw [hs3]; show s.top = 1; rw [← hs]; exact h.top
  have e4 : s3.out = Wr := by rw [hs3]; show s.out = Wr; rw [← hs]; exact h.out
  have e5 : s3.shut = z := by rw [hs3]; show s.shut = z; rw [← hs]; exact h.shut
  have e6 : s3.over = false := by rw [hs3]; show s.over = false; rw [← hs]; exact h.over
  have e7 : s3.wnd = 1024 := by rw [hs3]; exact f4
  have e8 : s3.off = 0 := by unfold TS.off; rw [e1, e2]
  have e9 : (s3.shut && !s3.over) = z := by rw [e5, e6]; cases z <;> rfl
  have e10 : s3.inn = [] := by rw [hs3]; show s.inn = []; rw [← hs]; exact h.inn
  have e11 : s3.state = 3 := by rw [hs3]; rfl
  obtain ⟨ps, y, e, r1, r2, r3, r4, r5, r6⟩ := TS.push_run (s := s3) e11 (by omega) (by omega) (by rw [e8]; exact Nat.zero_le _)
  rw [e9, e1, e4] at r4
  have hy : y = 1 + Wr.length + z.toNat := r4 (by rw [e7]; omega)
  rw [e2] at r1 r2 r5
  have htop : max s3.top y = y := by omega
  have hpk3 : s3.pack = [({ s with idle := 0, irs := q.seq, rcv := 1, wnd := q.wn } : TS).opened.mkp 2 (m32 (s.iss + s.top)) []] := by
    rw [hs3]
    show s.pack ++ [_] = _
    rw [p0]
    rfl
  rw [htop] at e
  have hL := does_gv (P := P) (i := 0) (by omega) hb0 p1 (by rw [hs, hst]; decide) (by
    rw [hs, htk, e]
    show s3.state ≠ 0
    rw [e11]
    decide) (by
    rw [hs, htk, e]
    show (P.bag 1).length + (s3.pack ++ ps).length ≤ 300
    rw [h.b1, hpk3, List.length_append]
    show 0 + (1 + ps.length) ≤ 300
    omega)
  rw [hs, htk, e] at hL
  have hc0 : (P.does (gvA 0)).c 0 = { s3 with nxt := y, top := y, pack := [] } := hL.c
  have hc1 : (P.does (gvA 0)).c 1 = P.c 1 := hL.co
  have hbg0 : (P.does (gvA 0)).bag 0 = [] := hL.bag
  have hbg1 : (P.does (gvA 0)).bag 1 = s3.pack ++ ps := by
    have := hL.bago
    rw [show P.bag (1 - 0) = [] from h.b1, List.nil_append] at this
    exact this
  have hwr : (P.does (gvA 0)).wr 0 = Wr := hL.wr.trans h.wr
  have hrd : (P.does (gvA 0)).rd 1 = [] := hL.rdo.trans h.rd
  have hln : Ln iss irs Wr 1 (s3.pack ++ ps) y (1 + 2 * ps.length) := by
    have l1 : Ln iss irs Wr 1 s3.pack 1 1 := by
      rw [hpk3]
      refine ⟨?_, Nat.le_refl _, .inl ⟨rfl, rfl, ?_, 0, rfl, rfl, rfl⟩⟩
      · show m32 (q.seq + 1) = _
        rw [f2]
      · show m32 (s.iss + s.top) = _
        rw [hnm, show s.top = 1 by rw [← hs]; exact h.top]
    have l2 : Ln iss irs Wr 1 ps y (2 * ps.length) := by
      unfold TS.Sent at r1
      rw [e1, e4, show s3.iss = iss by rw [hs3]; exact hnm] at r1
      refine sent_ln (a := s3.rnum s3.rcv) s3.window ?_ (Nat.le_refl 1) (by omega) ps (Nat.le_refl _) (by rw [show (1 : Nat) - 1 = 0 from rfl, List.drop_zero]; exact r1)
      rw [hs3]
      show m32 (q.seq + 1) = _
      rw [f2]
    exact ln_app _ l1 l2
  have hA : LA iss irs Wr ({ s3 with nxt := y, top := y, pack := [] } : TS) 1 y := by
    refine ⟨e11, ?_, ?_, ?_, e10, ?_, ?_, ?_, e1, rfl, rfl, Nat.le_refl _, by omega, ?_, ?_, ?_, by omega, by omega, ?_⟩
    · show s3.iss = iss; rw [hs3]; exact hnm
    · show s3.irs = irs; rw [hs3]; exact f2
    · show s3.rcv = 1; rw [hs3]; rfl
    · show s3.fin = false; rw [hs3]; show s.fin = false; rw [← hs]; exact h.fin
    · show s3.told = false; rw [hs3]; show s.told = false; rw [← hs]; exact h.told
    · show s3.early = _; rw [hs3]; show s.early = _; rw [← hs]; exact h.early
    · show s3.out = _; rw [e4]; rfl
    · show y ≤ 1 + Wr.length + s3.shut.toNat
      rw [e5]
      omega
    · show s3.over = _
      rw [e6, decide_eq_false]
      omega
    · show 896 ≤ s3.wnd
      rw [e7]
      decide
  have hLP : LP iss irs 0 0 (P.does (gvA 0)) 1 1 y 21 [] := by
    refine ⟨⟨_, pg.does _⟩, ?_, ?_, ?_, Nat.zero_le _, ?_, .inl rfl, ?_, ?_, ?_, ?_⟩
    · rw [hc0, hwr]; exact hA
    · rw [hc1, hwr, hrd, List.append_nil, inn_eq h.b.inn]; exact h.b
    · rw [hc1]; exact h.b.inn
    · rw [hbg0, hbg1, hwr, hc0]
      refine ⟨_, 0, hln, ⟨Nat.le_refl _, rfl⟩, ?_⟩
      rw [if_pos (show y = 1 + Wr.length + s3.shut.toNat by rw [e5]; exact hy)]
      omega
    · rw [hwr, hc0]
      left
      show y = 1 + Wr.length + s3.shut.toNat
      rw [e5]
      exact hy
    · rw [hbg1, hpk3]
      intro _ e
      cases e
    · rw [hc0]
      have : s3.idle = 0 := by rw [hs3]; rfl
      exact ⟨Nat.le_of_eq this, fun _ => this⟩
    · rw [hc1]
      exact ⟨Nat.le_of_eq h.i1, fun _ => h.i1⟩
  have h1 := (hLP.rd0 (by omega)).rd1 (by omega)
  have hit : P.iter = ((P.does (gvA 0)).does (rdA 0)).does (rdA 1) := by
    unfold PS.iter
    rw [if_neg (by rw [hb0]; show ¬ (1 : Nat) = 0; decide)]
  rw [hit, ← hy]
  refine ⟨h1, ?_, ?_⟩
  · rw [PS.rd_wr (by omega), PS.rd_wr (by omega), hwr]
  · rw [PS.rd_shut (by omega), PS.rd_shut (by omega), hc0]
    exact e5
/-- Both have found one another, and all has come. -/
theorem IS.settles (h : IS iss irs Wr z P) (hir : irs < 4294967296) (t : Nat) (ht : t ≤ 100) : ∃ R x', Settles (t + 1) P R ∧ QT iss irs (t + 1) R x' ∧ R.wr 0 = Wr ∧ (R.c 0).shut = z := by
  have hb1 : P.busy := by
    obtain ⟨p, e, _⟩ := h.b1
    unfold PS.busy
    rw [e]
    show 0 < _ + 1
    omega
  have hJ := h.iter
  have hb2 : P.iter.busy := by
    obtain ⟨p, e, _⟩ := hJ.b0
    unfold PS.busy
    rw [e]
    show 0 < 1 + _
    omega
  obtain ⟨hL, e1, e2⟩ := hJ.iter hir
  obtain ⟨k, Q, x', b1, b2, b3, b6, b4, b5⟩ := hL.round (by omega) (by omega)
  obtain ⟨R, c1, c2, c3, c4⟩ := QT.settles t b3 (by omega)
  refine ⟨R, x', .cons (.cons hb1 (.cons hb2 b2)) (by omega) c1, ?_, (c3.trans b4).trans e1, (c4.trans b5).trans e2⟩
  rw [show t + 1 = 0 + 1 + t by omega]
  exact c2
end
end Go.Proofs.Ytjhnnnklfhbebaa
namespace Go.Proofs.Ytjhnnnklfhbebaa
open Go.RowKit
set_option linter.unusedVariables false
set_option linter.unusedSimpArgs false
section
variable {iss irs τ u0 u v x f C i k n : Nat} {P Q : PS} {b text : List UInt8}
/-- Settle, where something is to come. -/
theorem LP.settles2 (h : LP iss irs τ u0 P u v x f []) (hf : f ≤ 100) (ht : τ ≤ 126) (hu : u0 < 1 + (P.wr 0).length + (P.c 0).shut.toNat) (t : Nat) (ht2 : t ≤ 120) : ∃ R x', Settles (t + 1) P R ∧ QT iss irs (t + 1) R x' ∧ R.wr 0 = P.wr 0 ∧ (R.c 0).shut = (P.c 0).shut := by
  obtain ⟨k, Q, x', b1, b2, b3, b6, b4, b5⟩ := h.round hf ht
  have hx := b3.xe
  rw [b4, b5] at hx
  obtain ⟨R, c1, c2, c3, c4⟩ := QT.settles t (b6 (by omega)) (by omega)
  refine ⟨R, x', .cons b2 (by omega) c1, ?_, c3.trans b4, c4.trans b5⟩
  rw [Nat.add_comm t 1]
  exact c2
/-- The loop of TcpPieces, ahead of round i; n: how much is written. -/
structure PcAt (iss irs : Nat) (text : List UInt8) (C i n : Nat) (P : PS) : Prop where
  shut : (P.c 0).shut = false
  nl : n ≤ text.length
  wr : P.wr 0 = text.take n
  st : (IS iss irs [] false P ∧ i = 0 ∧ n = 0) ∨ ∃ τ x, QT iss irs τ P x ∧ 1 ≤ i ∧ ((i ≤ C ∧ τ ≤ 2 * i) ∨ τ ≤ 2)
  left : text.length - n = 0 ∨ text.length - n + 1024 * (i - C) ≤ 5000
theorem PcAt.len (h : PcAt iss irs text C i n P) : (P.wr 0).length = n := by
  rw [h.wr, List.length_take]
  have := h.nl
  omega
theorem begun_pc (hi : iss < 4294967296) (hr : irs < 4294967296) (ht : text.length ≤ 5000) : PcAt iss irs text C 0 0 (PS.begun iss irs) := by
  have h := begun_is hi hr
  exact ⟨h.shut, Nat.zero_le _, h.wr, .inl ⟨h, rfl, rfl⟩, .inr (by omega)⟩
theorem take_more (text : List UInt8) (n k : Nat) : text.take n ++ ((text.drop n).take k).take (min ((text.drop n).take k).length 1024) = text.take (n + min ((text.drop n).take k).length 1024) := by
  rw [List.take_take, List.take_add]
  congr 2
  rw [List.length_take]
  omega
/-- A round. -/
theorem PcAt.step (h : PcAt iss irs text C i n P) (hr : irs < 4294967296) (ht : text.length ≤ 5000) (hC : C ≤ 60) (hk : k ≤ text.length - n) (hik : i < C ∨ (k = text.length - n ∧ 0 < k)) : (P.does (wrA ((text.drop n).take k))).wr 0 = text.take (n + min k 1024) ∧
    ∃ R, Settles 2 (P.does (wrA ((text.drop n).take k))) R ∧ PcAt iss irs text C (i + 1) (n + min k 1024) R := by
  have hnl := h.nl
  have hbl : ((text.drop n).take k).length = k := by
    rw [List.length_take, List.length_drop]
    omega
  have htm := take_more text n k
  rw [hbl] at htm
  have hleft : text.length - (n + min k 1024) = 0 ∨ text.length - (n + min k 1024) + 1024 * (i + 1 - C) ≤ 5000 := by
    rcases h.left with e | e
    · left
      omega
    · rcases hik with hi | ⟨e1, e2⟩
      · right
        omega
      · by_cases hz : k ≤ 1024
        · left
          omega
        · right
          omega
  rcases h.st with ⟨hI, rfl, rfl⟩ | ⟨τ, x, hQ, hi1, hτ⟩
  · have h1 := hI.write ((text.drop 0).take k)
    rw [hbl] at h1
    obtain ⟨R, x', s1, s2, s3, s4⟩ := h1.settles hr 1 (by omega)
    have hw : (P.does (wrA ((text.drop 0).take k))).wr 0 = text.take (0 + min k 1024) := by
      rw [h1.wr, ← htm]
      rfl
    refine ⟨hw, R, s1, s4, by omega, by rw [s3, ← htm]; rfl, .inr ⟨2, x', s2, by omega, .inr (Nat.le_refl _)⟩, hleft⟩
  · obtain ⟨y, h1, h2, h3⟩ := hQ.write h.shut (by rw [h.len]; omega) ((text.drop n).take k)
    rw [hbl, h.wr, htm] at h2
    refine ⟨h2, ?_⟩
    have hxe := hQ.xe
    rw [h.shut, h.len] at hxe
    have hxe : x = 1 + n + 0 := hxe
    have hl2 : (text.take (n + min k 1024)).length = n + min k 1024 := by
      rw [List.length_take]
      omega
    by_cases hz : 0 < k
    · obtain ⟨R, x', s1, s2, s3, s4⟩ := h1.settles2 (by omega) (by omega) (by rw [h2, h3, hl2]; omega) 1 (by omega)
      exact ⟨R, s1, by rw [s4]; exact h3, by omega, by rw [s3]; exact h2, .inr ⟨2, x', s2, by omega, .inr (Nat.le_refl _)⟩, hleft⟩
    · have hi : i < C := by omega
      obtain ⟨R, x', s1, s2, _, s3, s4⟩ := h1.settles (by omega) 1 (by omega)
      exact ⟨R, s1, by rw [s4]; exact h3, by omega, by rw [s3]; exact h2, .inr ⟨τ + 1 + 1, x', s2, by omega, by omega⟩, hleft⟩
/-- Behind the loop. -/
theorem PcAt.fin (h : PcAt iss irs text C i n P) (hr : irs < 4294967296) (ht : text.length ≤ 5000) (hC : C ≤ 60) (he : 80 ≤ i ∨ (C ≤ i ∧ n = text.length)) : n = text.length ∧ ∃ R, Settles 12 (P.does clA) R ∧ R.rd 1 = text ∧ (R.c 1).fin = true ∧ (R.c 1).state ≠ 0 := by
  have hnl := h.nl
  have hn : n = text.length := by
    rcases he with e | e
    · rcases h.left with e2 | e2 <;> omega
    · exact e.2
  refine ⟨hn, ?_⟩
  have hw : P.wr 0 = text := by rw [h.wr, hn, List.take_length]
  have key : ∀ {R : PS} {τ x : Nat}, QT iss irs τ R x → R.wr 0 = text → (R.c 0).shut = true → R.rd 1 = text ∧ (R.c 1).fin = true ∧ (R.c 1).state ≠ 0 := fun {R τ x} q e1 e2 => by
    obtain ⟨d1, d2, d3⟩ := q.done e2
    exact ⟨d2.trans e1, d1, d3⟩
  rcases h.st with ⟨hI, rfl, rfl⟩ | ⟨τ, x, hQ, hi1, hτ⟩
  · obtain ⟨R, x', s1, s2, s3, s4⟩ := hI.close.settles hr 11 (by omega)
    have ht0 : text = [] := List.eq_nil_of_length_eq_zero hn.symm
    exact ⟨R, s1, key s2 (by rw [s3, ht0]) s4⟩
  · obtain ⟨h1, h2, h3⟩ := hQ.close h.shut
    have hxe := hQ.xe
    rw [h.shut, h.len] at hxe
    have hxe : x = 1 + n + 0 := hxe
    obtain ⟨R, x', s1, s2, s3, s4⟩ := h1.settles2 (by omega) (by omega) (by
      rw [h2, h3, h.len]
      show x < 1 + n + 1
      omega) 11 (by omega)
    exact ⟨R, s1, key s2 ((s3.trans h2).trans hw) (s4.trans h3)⟩
end
end Go.Proofs.Ytjhnnnklfhbebaa
