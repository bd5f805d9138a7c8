/- tcp: what an endpoint puts out holds, at its place, what was written (plain). -/
import Derived.Test.YtjhnnnklfhbebaaTiI
namespace Go.Proofs.Ytjhnnnklfhbebaa
open Go.RowKit
set_option linter.unusedVariables false
set_option linter.unusedSimpArgs false
/-- A packet that is rightful where Wr was written, and sh: nothing more will be. -/
structure SP (iss : Nat) (Wr : List UInt8) (sh : Bool) (p : Pk) : Prop where
  dat : p.data ≠ [] → ∃ a, p.seq = m32 (iss + 1 + a) ∧ a + p.data.length ≤ Wr.length ∧ ∀ k x, p.data[k]? = some x → Wr[a + k]? = some x
  fin : hasF p 4 = true → sh = true ∧ p.data = [] ∧ p.seq = m32 (iss + 1 + Wr.length)
  syn : hasF p 1 = true → p.seq = iss
theorem SP.more {iss : Nat} {Wr b : List UInt8} {sh sh' : Bool} {p : Pk} (h : SP iss Wr sh p) (hs : sh = true → sh' = true ∧ b = []) : SP iss (Wr ++ b) sh' p := by
  refine ⟨fun e => ?_, fun e => ?_, h.syn⟩
  · obtain ⟨a, h1, h2, h3⟩ := h.dat e
    refine ⟨a, h1, ?_, fun k x hk => ?_⟩
    · rw [List.length_append]
      omega
    · have := h3 k x hk
      rw [List.getElem?_append_left (List.getElem?_eq_some_iff.1 this).1]
      exact this
  · obtain ⟨h1, h2, h3⟩ := h.fin e
    obtain ⟨h4, rfl⟩ := hs h1
    exact ⟨h4, h2, by rw [List.append_nil]; exact h3⟩
/-- A packet without bytes and without marks but ACK or RST. -/
theorem SP.bare {iss : Nat} {Wr : List UInt8} {sh : Bool} {p : Pk} (hd : p.data = []) (h4 : hasF p 4 = false) (h1 : hasF p 1 = false) : SP iss Wr sh p :=
  ⟨fun e => absurd hd e, fun e => (by rw [h4] at e; cases e), fun e => (by rw [h1] at e; cases e)⟩
theorem hasFl {p : Pk} {f : Int} (h : p.fl = f) (k : Int) : hasF p k = decide (bits .and .i64 f k ≠ 0) := by rw [← h]; rfl
namespace TS
variable {s : TS} {iss : Nat} {Wr : List UInt8}
/-- What a sender keeps. -/
structure SS (iss : Nat) (Wr : List UInt8) (s : TS) : Prop where
  nm : s.state ≠ 0 → s.iss = iss
  z : s.state = 0 → Wr = []
  ask : s.state = 1 ∨ s.state = 2 → s.una = 0 ∧ s.nxt = 1 ∧ s.top = 1 ∧ s.out = Wr ∧ s.sent = 0 ∧ s.over = false
  go : s.state = 3 ∨ s.state = 4 → s.una = 1 + s.sent + s.over.toNat ∧ s.out = Wr.drop s.sent ∧ s.sent ≤ Wr.length ∧ (s.over = true → s.sent = Wr.length ∧ s.shut = true) ∧ s.una ≤ s.nxt ∧ s.nxt ≤ s.top ∧ s.top ≤ 1 + Wr.length + s.shut.toNat
  pack : ∀ p ∈ s.pack, SP iss Wr s.shut p
theorem SS.of (h : SS iss Wr s) {s' : TS} (e0 : s'.state = s.state) (e1 : s'.iss = s.iss) (e2 : s'.una = s.una) (e3 : s'.nxt = s.nxt) (e4 : s'.top = s.top) (e5 : s'.out = s.out) (e6 : s'.sent = s.sent) (e7 : s'.over = s.over) (e8 : s'.shut = s.shut) (e9 : s'.pack = s.pack) : SS iss Wr s' :=
  ⟨by rw [e0, e1]; exact h.nm, by rw [e0]; exact h.z, by rw [e0, e2, e3, e4, e5, e6, e7]; exact h.ask, by rw [e0, e2, e3, e4, e5, e6, e7, e8]; exact h.go, by rw [e8, e9]; exact h.pack⟩
theorem SS.emit (h : SS iss Wr s) {fl at_ : Nat} {d : List UInt8} (hp : SP iss Wr s.shut (s.mkp fl at_ d)) : SS iss Wr (s.emit fl at_ d) := ⟨h.nm, h.z, h.ask, h.go, fun p hp2 => by
  rcases List.mem_append.1 hp2 with e | e
  · exact h.pack p e
  · rw [List.mem_singleton.1 e]
    exact hp⟩
theorem mkp_fl (s : TS) (fl at_ : Nat) (d : List UInt8) : (s.mkp fl at_ d).fl = (fl : Int) := rfl
theorem SS.bare (h : SS iss Wr s) {fl : Nat} (hf : fl = 2 ∨ fl = 10) (at_ : Nat) : SS iss Wr (s.emit fl at_ []) := by
  refine h.emit (SP.bare rfl ?_ ?_)
  · rw [hasFl (mkp_fl s fl at_ [])]
    rcases hf with rfl | rfl <;> decide +kernel
  · rw [hasFl (mkp_fl s fl at_ [])]
    rcases hf with rfl | rfl <;> decide +kernel
theorem SS.ack (h : SS iss Wr s) : SS iss Wr s.ack := h.bare (.inl rfl) _
theorem SS.syn (h : SS iss Wr s) (h0 : s.state ≠ 0) : SS iss Wr s.syn := by
  have e := h.nm h0
  unfold TS.syn
  split
  · refine h.emit ⟨fun e => absurd rfl e, fun e => ?_, fun _ => e⟩
    rw [hasFl (mkp_fl s 1 _ [])] at e
    exact absurd e (by decide +kernel)
  · refine h.emit ⟨fun e => absurd rfl e, fun e => ?_, fun _ => e⟩
    rw [hasFl (mkp_fl s 3 _ [])] at e
    exact absurd e (by decide +kernel)
theorem SS.refuse (h : SS iss Wr s) (p : Pk) : SS iss Wr (s.refuse p) := by
  unfold TS.refuse
  split
  · rename_i hr
    refine ⟨h.nm, h.z, h.ask, h.go, fun q hq => ?_⟩
    rcases List.mem_append.1 hq with e | e
    · exact h.pack q e
    · rw [List.mem_singleton.1 e]
      unfold Pk.refuse at hr ⊢
      split
      · refine SP.bare rfl ?_ ?_
        · rw [hasFl (f := 10) rfl]
          decide +kernel
        · rw [hasFl (f := 10) rfl]
          decide +kernel
      · rename_i hc
        rw [if_neg hc] at hr
        cases hr
  · exact h
theorem SS.reset (h : SS iss Wr s) (h0 : s.state ≠ 0) : SS iss Wr s.reset := ⟨fun _ => h.nm h0, fun e => absurd (show (5 : Nat) = 0 from e) (by decide), fun e => absurd (show (5 : Nat) = 1 ∨ (5 : Nat) = 2 from e) (by decide), fun e => absurd (show (5 : Nat) = 3 ∨ (5 : Nat) = 4 from e) (by decide), h.pack⟩
theorem not_dead (h : ¬ s.dead = true) : s.state ≠ 0 ∧ s.state ≠ 4 ∧ s.state ≠ 5 := by
  unfold TS.dead at h
  rw [decide_eq_true_eq] at h
  omega
theorem SS.abort (h : SS iss Wr s) : SS iss Wr s.abort := by
  unfold TS.abort
  split
  · exact h
  · rename_i hd
    have h0 := (not_dead hd).1
    split
    · exact h.reset h0
    · exact (h.bare (.inr rfl) _).reset h0
/-- Bytes sent from the next place on. -/
theorem SS.send (h : SS iss Wr s) (h3 : s.state = 3) (hm : 0 < s.may) : SS iss Wr (s.send s.may.toNat) := by
  obtain ⟨g1, g2, g3, g4, g5, g6, g7⟩ := h.go (.inl h3)
  have hi := h.nm (by omega)
  obtain ⟨n, hn⟩ : ∃ n, s.may.toNat = n := ⟨_, rfl⟩
  have hl : s.off + n ≤ s.out.length := by
    have : s.may ≤ (s.out.length : Int) - (s.off : Int) := by unfold TS.may; omega
    omega
  have hn0 : 0 < n := by omega
  have hlen : s.out.length = Wr.length - s.sent := by rw [g2, List.length_drop]
  have hov : s.over = false := by
    cases e : s.over with
    | false => rfl
    | true =>
      have := (g4 e).1
      omega
  have ho : s.over.toNat = 0 := by rw [hov]; rfl
  have hoff : s.nxt = 1 + s.sent + s.off := by unfold TS.off; omega
  rw [hn]
  have h1 : SS iss Wr (s.emit 2 (s.num s.nxt) ((s.out.drop s.off).take n)) := by
    refine h.emit ⟨fun _ => ⟨s.sent + s.off, ?_, ?_, fun k x hk => ?_⟩, fun e => ?_, fun e => ?_⟩
    · show s.num s.nxt = m32 (iss + 1 + (s.sent + s.off))
      unfold TS.num
      rw [hi, hoff]
      congr 1
      omega
    · show s.sent + s.off + ((s.out.drop s.off).take n).length ≤ Wr.length
      rw [List.length_take, List.length_drop]
      omega
    · have hk : ((s.out.drop s.off).take n)[k]? = some x := hk
      have hk2 := hk
      rw [List.getElem?_take] at hk2
      split at hk2
      · rw [List.getElem?_drop, g2, List.getElem?_drop, ← Nat.add_assoc] at hk2
        exact hk2
      · cases hk2
    · rw [hasFl (mkp_fl s 2 _ _)] at e
      exact absurd e (by decide +kernel)
    · rw [hasFl (mkp_fl s 2 _ _)] at e
      exact absurd e (by decide +kernel)
  refine ⟨h1.nm, h1.z, fun e => ?_, fun _ => ⟨g1, g2, g3, g4, ?_, ?_, ?_⟩, h1.pack⟩
  · have e : s.state = 1 ∨ s.state = 2 := e
    omega
  · show s.una ≤ s.nxt + n
    omega
  · show s.nxt + n ≤ max s.top (s.nxt + n)
    omega
  · show max s.top (s.nxt + n) ≤ 1 + Wr.length + s.shut.toNat
    omega
theorem send_state (s : TS) (n : Nat) : (s.send n).state = s.state := rfl
theorem SS.pushL : ∀ (f : Nat) {s : TS}, SS iss Wr s → s.state = 3 → SS iss Wr (TS.pushL f s) ∧ (TS.pushL f s).state = 3
  | 0, _, h, h3 => ⟨h, h3⟩
  | f + 1, s, h, h3 => by
    show SS iss Wr (if s.may ≤ 0 then s else TS.pushL f (s.send s.may.toNat)) ∧ (if s.may ≤ 0 then s else TS.pushL f (s.send s.may.toNat)).state = 3
    split
    · exact ⟨h, h3⟩
    · exact SS.pushL f (h.send h3 (by omega)) h3
theorem SS.pushF (h : SS iss Wr s) (h3 : s.state = 3) : SS iss Wr s.pushF := by
  unfold TS.pushF
  split
  · rename_i hc
    obtain ⟨c1, c2, c3⟩ := hc
    obtain ⟨g1, g2, g3, g4, g5, g6, g7⟩ := h.go (.inl h3)
    have hi := h.nm (by omega)
    have ho : s.over.toNat = 0 := by rw [c2]; rfl
    have hs : s.shut.toNat = 1 := by rw [c1]; rfl
    have hlen : s.out.length = Wr.length - s.sent := by rw [g2, List.length_drop]
    have hn : s.nxt = 1 + Wr.length := by unfold TS.off at c3; omega
    have h1 : SS iss Wr (s.emit 6 (s.num s.nxt) []) := by
      refine h.emit ⟨fun e => absurd rfl e, fun _ => ⟨c1, rfl, ?_⟩, fun e => ?_⟩
      · show s.num s.nxt = m32 (iss + 1 + Wr.length)
        unfold TS.num
        rw [hi, hn]
        congr 1
        omega
      · rw [hasFl (mkp_fl s 6 _ _)] at e
        exact absurd e (by decide +kernel)
    refine ⟨h1.nm, h1.z, fun e => ?_, fun _ => ⟨g1, g2, g3, g4, ?_, ?_, ?_⟩, h1.pack⟩
    · have e : s.state = 1 ∨ s.state = 2 := e
      omega
    · show s.una ≤ s.nxt + 1
      omega
    · show s.nxt + 1 ≤ max s.top (s.nxt + 1)
      omega
    · show max s.top (s.nxt + 1) ≤ 1 + Wr.length + s.shut.toNat
      omega
  · exact h
theorem SS.push (h : SS iss Wr s) : SS iss Wr s.push := by
  unfold TS.push
  split
  · rename_i h3
    obtain ⟨h1, h2⟩ := SS.pushL (s.out.length + 1) h h3
    exact h1.pushF h2
  · exact h
theorem SS.back (h : SS iss Wr s) (h3 : s.state = 3) : SS iss Wr s.back := by
  obtain ⟨g1, g2, g3, g4, g5, g6, g7⟩ := h.go (.inl h3)
  refine ⟨h.nm, h.z, fun e => ?_, fun _ => ⟨g1, g2, g3, g4, Nat.le_refl _, ?_, g7⟩, h.pack⟩
  · have e : s.state = 1 ∨ s.state = 2 := e
    omega
  · show s.una ≤ s.top
    omega
theorem SS.again (h : SS iss Wr s) (h3 : s.state = 3) : SS iss Wr s.again := by
  have hb := h.back h3
  unfold TS.again
  split
  · rename_i hc
    obtain ⟨c1, c2⟩ := hc
    obtain ⟨g1, g2, g3, g4, g5, g6, g7⟩ := hb.go (.inl h3)
    have hi := h.nm (by omega)
    have hlen : s.out.length = Wr.length - s.sent := by
      have := congrArg List.length g2
      rw [List.length_drop] at this
      exact this
    have hov : s.over = false := by
      cases e : s.over with
      | false => rfl
      | true =>
        have : s.sent = Wr.length := (g4 e).1
        omega
    have ho : s.over.toNat = 0 := by rw [hov]; rfl
    have hu : s.una = 1 + s.sent := by
      have : s.una = 1 + s.sent + s.over.toNat := g1
      omega
    have h1 : SS iss Wr (s.back.emit 2 (s.num s.una) (s.out.take 1)) := by
      refine hb.emit ⟨fun _ => ⟨s.sent, ?_, ?_, fun k x hk => ?_⟩, fun e => ?_, fun e => ?_⟩
      · show s.num s.una = m32 (iss + 1 + s.sent)
        unfold TS.num
        rw [hi, hu]
        congr 1
        omega
      · show s.sent + (s.out.take 1).length ≤ Wr.length
        rw [List.length_take]
        omega
      · have hk : (s.out.take 1)[k]? = some x := hk
        have hk2 := hk
        rw [List.getElem?_take] at hk2
        split at hk2
        · have g2 : s.out = Wr.drop s.sent := g2
          rw [g2, List.getElem?_drop] at hk2
          exact hk2
        · cases hk2
      · rw [hasFl (mkp_fl s.back 2 _ _)] at e
        exact absurd e (by decide +kernel)
      · rw [hasFl (mkp_fl s.back 2 _ _)] at e
        exact absurd e (by decide +kernel)
    have g6 : s.una ≤ s.top := g6
    have g7 : s.top ≤ 1 + Wr.length + s.shut.toNat := g7
    refine ⟨h1.nm, h1.z, fun e => ?_, fun _ => ⟨g1, g2, g3, g4, ?_, ?_, ?_⟩, h1.pack⟩
    · have e : s.state = 1 ∨ s.state = 2 := e
      omega
    · show s.una ≤ s.una + 1
      omega
    · show s.una + 1 ≤ max s.top (s.una + 1)
      omega
    · show max s.top (s.una + 1) ≤ 1 + Wr.length + s.shut.toNat
      omega
  · exact hb.push
theorem SS.late (h : SS iss Wr s) (h0 : s.state ≠ 0) : SS iss Wr s.late := by
  have h1 : SS iss Wr ({ s with timer := 0, tries := s.tries + 1 } : TS) := h.of rfl rfl rfl rfl rfl rfl rfl rfl rfl rfl
  unfold TS.late
  dsimp only
  split
  · exact h1.abort
  · split
    · rename_i h3
      exact h1.again h3
    · exact h1.syn h0
theorem SS.tick (h : SS iss Wr s) : SS iss Wr s.tick := by
  unfold TS.tick
  split
  · exact h
  · rename_i hd
    dsimp only
    obtain ⟨t, htt⟩ : ∃ t, (if s.nxt = s.una ∧ s.out.length = 0 then 0 else s.timer + 1) = t := ⟨_, rfl⟩
    rw [htt]
    have h1 : SS iss Wr ({ s with idle := s.idle + 1, timer := t } : TS) := h.of rfl rfl rfl rfl rfl rfl rfl rfl rfl rfl
    split
    · exact h1.abort
    · split
      · exact h1.late (not_dead hd).1
      · split
        · exact h1.bare (.inl rfl) _
        · exact h1
theorem SS.opened (h : SS iss Wr s) (h12 : s.state = 1 ∨ s.state = 2) : SS iss Wr s.opened := by
  obtain ⟨a1, a2, a3, a4, a5, a6⟩ := h.ask h12
  refine ⟨fun _ => h.nm (by omega), fun e => absurd (show (3 : Nat) = 0 from e) (by decide), fun e => absurd (show (3 : Nat) = 1 ∨ (3 : Nat) = 2 from e) (by decide), fun _ => ⟨?_, ?_, ?_, ?_, ?_, ?_, ?_⟩, h.pack⟩
  · show (1 : Nat) = 1 + s.sent + s.over.toNat
    rw [a5, a6]
    rfl
  · show s.out = Wr.drop s.sent
    rw [a4, a5, List.drop_zero]
  · show s.sent ≤ Wr.length
    omega
  · intro e
    have e : s.over = true := e
    rw [a6] at e
    cases e
  · exact Nat.le_refl 1
  · show (1 : Nat) ≤ s.top
    omega
  · show s.top ≤ 1 + Wr.length + s.shut.toNat
    omega
theorem SS.answered (h : SS iss Wr s) (h1 : s.state = 1) (p : Pk) : SS iss Wr (s.answered p) := by
  unfold TS.answered
  dsimp only
  split
  · exact h.refuse p
  · split
    · split
      · exact h.reset (by omega)
      · exact h
    · split
      · have h2 : SS iss Wr ({ s with irs := p.seq, rcv := 1, wnd := p.wn } : TS) := h.of rfl rfl rfl rfl rfl rfl rfl rfl rfl rfl
        exact ((h2.opened (.inl h1)).ack).push
      · exact h
theorem SS.credit (h : SS iss Wr s) (ok : s.Ok) (h34 : s.state = 3 ∨ s.state = 4) (p : Pk) : SS iss Wr (s.credit p).2 := by
  obtain ⟨g1, g2, g3, g4, g5, g6, g7⟩ := h.go h34
  unfold TS.credit
  split
  · exact h
  · rename_i c1
    split
    · exact h
    · rename_i c2
      split
      · exact h.of rfl rfl rfl rfl rfl rfl rfl rfl rfl rfl
      · rename_i c3
        dsimp only
        have hp := credit_place ok (by omega) c1 c2
        obtain ⟨n, hn⟩ : ∃ n, (sd p.ack (s.num s.una)).toNat = n := ⟨_, rfl⟩
        have hn0 : 0 < n := by omega
        rw [hn] at hp ⊢
        have hlen : s.out.length = Wr.length - s.sent := by rw [g2, List.length_drop]
        have hsh : s.shut.toNat ≤ 1 := by cases s.shut <;> decide
        have hov : s.over = false := by
          cases e : s.over with
          | false => rfl
          | true =>
            have h1 := g4 e
            have h2 : s.over.toNat = 1 := by rw [e]; rfl
            omega
        have ho : s.over.toNat = 0 := by rw [hov]; rfl
        refine ⟨h.nm, h.z, fun e => ?_, fun _ => ⟨?_, ?_, ?_, ?_, ?_, ?_, g7⟩, h.pack⟩
        · have e : s.state = 1 ∨ s.state = 2 := e
          omega
        · show s.una + n = 1 + (s.sent + min n s.out.length) + (s.over || decide (min n s.out.length < n)).toNat
          rw [hov, Bool.false_or]
          by_cases hd : min n s.out.length < n
          · rw [decide_eq_true hd]
            have h6 : (true : Bool).toNat = 1 := rfl
            rw [h6]
            omega
          · rw [decide_eq_false hd]
            have h6 : (false : Bool).toNat = 0 := rfl
            rw [h6]
            omega
        · show s.out.drop (min n s.out.length) = Wr.drop (s.sent + min n s.out.length)
          rw [g2, List.drop_drop]
        · show s.sent + min n s.out.length ≤ Wr.length
          omega
        · intro e
          have e : (s.over || decide (min n s.out.length < n)) = true := e
          rw [hov, Bool.false_or, decide_eq_true_eq] at e
          refine ⟨?_, ?_⟩
          · show s.sent + min n s.out.length = Wr.length
            omega
          · show s.shut = true
            cases e2 : s.shut with
            | true => rfl
            | false =>
              have h7 : s.shut.toNat = 0 := by rw [e2]; rfl
              omega
        · show s.una + n ≤ max s.nxt (s.una + n)
          omega
        · show max s.nxt (s.una + n) ≤ s.top
          omega
theorem SS.talk (h : SS iss Wr s) (ok : s.Ok) (hq : s.Qu) (hs : s.state = 2 ∨ s.state = 3 ∨ s.state = 4) (p : Pk) : SS iss Wr (s.talk p) := by
  rw [talk_eq]
  have k1 := ok.talk1 hq
  have h1 : SS iss Wr s.talk1 ∧ (s.talk1.state = 3 ∨ s.talk1.state = 4) := by
    unfold TS.talk1
    split
    · rename_i h2
      exact ⟨h.opened (.inr h2), .inl rfl⟩
    · exact ⟨h, by omega⟩
  split
  · exact h1.1.ack
  · split
    · exact h1.1.ack
    · have h2 := h1.1.credit k1 h1.2 p
      obtain ⟨b1, b2, b3, b4, b5, b6, eb⟩ := talk2_shape (s.talk1.credit p).2 p
      have h3 : SS iss Wr ((s.talk1.credit p).2.talk2 p) := by rw [eb]; exact h2.of rfl rfl rfl rfl rfl rfl rfl rfl rfl rfl
      have h4 : SS iss Wr (((s.talk1.credit p).2.talk2 p).talk3 p) := by
        unfold TS.talk3
        split
        · exact h3.ack
        · exact h3
      have e3 : (((s.talk1.credit p).2.talk2 p).talk3 p).state = s.talk1.state := by
        obtain ⟨ps, e, _⟩ := talk3_shape ((s.talk1.credit p).2.talk2 p) p
        rw [e]
        show ((s.talk1.credit p).2.talk2 p).state = _
        rw [eb]
        obtain ⟨a1, a2, a3, a4, a5, a6, a7, a8, ec⟩ := credit_shape s.talk1 p
        show (s.talk1.credit p).2.state = _
        rw [ec]
      have h5 := h4.push
      have e5 : (((s.talk1.credit p).2.talk2 p).talk3 p).push.state = s.talk1.state := by
        obtain ⟨n, t, ps, e⟩ := push_shape (((s.talk1.credit p).2.talk2 p).talk3 p)
        rw [e]
        exact e3
      unfold TS.talk5
      split
      · refine ⟨fun _ => h5.nm (by omega), fun e => absurd (show (4 : Nat) = 0 from e) (by decide), fun e => absurd (show (4 : Nat) = 1 ∨ (4 : Nat) = 2 from e) (by decide), fun _ => h5.go (by omega), h5.pack⟩
      · exact h5
theorem SS.takes (h : SS iss Wr s) (ok : s.Ok) (hq : s.Qu) (hs : s.state = 2 ∨ s.state = 3 ∨ s.state = 4) (p : Pk) : SS iss Wr (s.takes p) := by
  unfold TS.takes
  split
  · split
    · exact h.reset (by omega)
    · exact h
  · split
    · exact h.syn (by omega)
    · split
      · exact h.ack
      · split
        · exact h
        · split
          · exact h.refuse p
          · exact h.talk ok hq hs p
theorem SS.take (h : SS iss Wr s) (ok : s.Ok) (hq : s.Qu) (p : Pk) : SS iss Wr (s.take p) := by
  unfold TS.take
  split
  · exact h
  · rename_i hc
    have h1 : SS iss Wr ({ s with idle := 0 } : TS) := h.of rfl rfl rfl rfl rfl rfl rfl rfl rfl rfl
    have hst := ok.st
    have h0 : s.state ≠ 0 := fun e => hc (.inl e)
    dsimp only
    split
    · exact h1.refuse p
    · split
      · rename_i h5
        exact h1.answered h5 p
      · rename_i h5 h6
        have h5 : s.state ≠ 5 := h5
        have h6 : s.state ≠ 1 := h6
        exact h1.takes ok.idle0 hq (show s.state = 2 ∨ s.state = 3 ∨ s.state = 4 by omega) p
theorem closed_not (h : ¬ s.closed = true) : s.state ≠ 0 ∧ s.shut = false ∧ s.state ≠ 5 ∧ s.state ≠ 4 := by
  rw [closed_of] at h
  refine ⟨fun e => h (.inl e), ?_, fun e => h (.inr (.inr (.inl e))), fun e => h (.inr (.inr (.inr e)))⟩
  cases e : s.shut with
  | true => exact absurd (.inr (.inl e)) h
  | false => rfl
theorem SS.write (h : SS iss Wr s) (b : List UInt8) : SS iss (Wr ++ b.take (s.write b).1) (s.write b).2 := by
  unfold TS.write
  split
  · show SS iss (Wr ++ b.take 0) s
    rw [List.take_zero, List.append_nil]
    exact h
  · rename_i hc
    obtain ⟨c0, c1, c2, c3⟩ := closed_not hc
    dsimp only
    obtain ⟨y, hy⟩ : ∃ y, b.take (min b.length (1024 - s.out.length)) = y := ⟨_, rfl⟩
    rw [hy]
    refine SS.push ⟨h.nm, fun e => absurd e c0, fun e => ?_, fun e => ?_, fun p hp => ?_⟩
    · obtain ⟨a1, a2, a3, a4, a5, a6⟩ := h.ask e
      exact ⟨a1, a2, a3, by show s.out ++ y = Wr ++ y; rw [a4], a5, a6⟩
    · obtain ⟨g1, g2, g3, g4, g5, g6, g7⟩ := h.go e
      have hov : s.over = false := by
        cases e : s.over with
        | false => rfl
        | true =>
          have := (g4 e).2
          rw [c1] at this
          cases this
      refine ⟨g1, ?_, ?_, fun e => ?_, g5, g6, ?_⟩
      · show s.out ++ y = (Wr ++ y).drop s.sent
        rw [List.drop_append_of_le_length g3, g2]
      · show s.sent ≤ (Wr ++ y).length
        rw [List.length_append]
        omega
      · have e : s.over = true := e
        rw [hov] at e
        cases e
      · show s.top ≤ 1 + (Wr ++ y).length + s.shut.toNat
        rw [List.length_append]
        omega
    · exact (h.pack p hp).more fun e => by rw [c1] at e; cases e
theorem SS.close (h : SS iss Wr s) : SS iss Wr s.close := by
  unfold TS.close
  split
  · rename_i hc
    obtain ⟨c0, c1, c2⟩ := hc
    refine SS.push ⟨h.nm, h.z, h.ask, fun e => ?_, fun p hp => ?_⟩
    · obtain ⟨g1, g2, g3, g4, g5, g6, g7⟩ := h.go e
      refine ⟨g1, g2, g3, fun e => ⟨(g4 e).1, rfl⟩, g5, g6, ?_⟩
      show s.top ≤ 1 + Wr.length + (true : Bool).toNat
      have h6 : (true : Bool).toNat = 1 := rfl
      have h7 : s.shut.toNat = 0 := by rw [c2]; rfl
      omega
    · have := (h.pack p hp).more (b := []) (sh' := true) fun e => ⟨rfl, rfl⟩
      rw [List.append_nil] at this
      exact this
  · exact h
theorem SS.read (h : SS iss Wr s) (n : Int) : SS iss Wr (s.read n).2 := by
  unfold TS.read
  split
  · exact h
  · dsimp only
    have h1 : SS iss Wr ({ s with inn := s.inn.drop (s.readN n), got := s.got + s.readN n } : TS) := h.of rfl rfl rfl rfl rfl rfl rfl rfl rfl rfl
    split
    · exact h1.ack
    · exact h1
theorem SS.outp (h : SS iss Wr s) : SS iss Wr s.outp.2 ∧ ∀ p ∈ s.outp.1, SP iss Wr s.shut p := by
  unfold TS.outp
  split
  · exact ⟨h, fun p hp => by cases hp⟩
  · exact ⟨⟨h.nm, h.z, h.ask, h.go, fun p hp => by cases hp⟩, h.pack⟩
theorem ss_zero (iss : Nat) : SS iss [] zero := ⟨fun e => absurd rfl e, fun _ => rfl, fun e => absurd (show (0 : Nat) = 1 ∨ (0 : Nat) = 2 from e) (by decide), fun e => absurd (show (0 : Nat) = 3 ∨ (0 : Nat) = 4 from e) (by decide), fun p hp => by cases hp⟩
theorem ss_started {src sp dst dp og : Int} {st : Nat} (h12 : st = 1 ∨ st = 2) (iss irs rcv : Nat) (wnd : Int) : SS iss [] ({ ({ zero with src := src, dst := dst, sp := sp, dp := dp, og := og, state := st } : TS).start iss with irs := irs, rcv := rcv, wnd := wnd } : TS).syn := by
  refine SS.syn ⟨fun _ => rfl, fun _ => rfl, fun _ => ⟨rfl, rfl, rfl, rfl, rfl, rfl⟩, fun e => ?_, fun p hp => by cases hp⟩ ?_
  · have e : st = 3 ∨ st = 4 := e
    omega
  · show st ≠ 0
    omega
theorem ss_accept {p : Pk} (h : TS.accept p iss = some s) : SS iss [] s := by
  unfold TS.accept at h
  split at h
  · cases h
  · cases h
    exact ss_started (.inr rfl) iss p.seq 1 p.wn
end TS
end Go.Proofs.Ytjhnnnklfhbebaa
