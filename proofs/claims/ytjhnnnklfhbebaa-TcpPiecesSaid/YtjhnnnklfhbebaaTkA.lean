/- tcp: what an endpoint puts out holds, at its place, what was written (plain). tcp: what came is a beginning of what was written (plain). flumelaw13's pair: what is read is a beginning of what was written (plain). -/
import Derived.Test.YtjhnnnklfhbebaaTiI
namespace Go.Proofs.Ytjhnnnklfhbebaa
open Go.RowKit
set_option linter.unusedVariables false
set_option linter.unusedSimpArgs false
/-- A packet that is rightful where Wr was written, and sh: nothing more will be. -/
structure SP (iss : Nat) (Wr : List UInt8) (sh : Bool) (p : Pk) : Prop where
  dat : p.data ≠ [] → ∃ a, p.seq = m32 (iss + 1 + a) ∧ a + p.data.length ≤ Wr.length ∧ ∀ k x, p.data[k]? = some x → Wr[a + k]? = some x
  fin : hasF p 4 = true → sh = true ∧ p.data = [] ∧ p.seq = m32 (iss + 1 + Wr.length)
  syn : hasF p 1 = true → p.seq = iss
theorem SP.more {iss : Nat} {Wr b : List UInt8} {sh sh' : Bool} {p : Pk} (h : SP iss Wr sh p) (hs : sh = true → sh' = true ∧ b = []) : SP iss (Wr ++ b) sh' p := by
  refine ⟨fun e => ?_, fun e => ?_, h.syn⟩
  · obtain ⟨a, h1, h2, h3⟩ := h.dat e
    refine ⟨a, h1, ?_, fun k x hk => ?_⟩
    · rw [List.length_append]
      omega
    · have := h3 k x hk
      rw [List.getElem?_append_left (List.getElem?_eq_some_iff.1 this).1]
      exact this
  · obtain ⟨h1, h2, h3⟩ := h.fin e
    obtain ⟨h4, rfl⟩ := hs h1
    exact ⟨h4, h2, by rw [List.append_nil]; exact h3⟩
/-- A packet without bytes and without marks but ACK or RST. -/
theorem SP.bare {iss : Nat} {Wr : List UInt8} {sh : Bool} {p : Pk} (hd : p.data = []) (h4 : hasF p 4 = false) (h1 : hasF p 1 = false) : SP iss Wr sh p :=
  ⟨fun e => absurd hd e, fun e => (by rw [h4] at e; cases e), fun e => (by rw [h1] at e; cases e)⟩
theorem hasFl {p : Pk} {f : Int} (h : p.fl = f) (k : Int) : hasF p k = decide (bits .and .i64 f k ≠ 0) := by rw [← h]; rfl
namespace TS
variable {s : TS} {iss : Nat} {Wr : List UInt8}
/-- What a sender keeps. -/
structure SS (iss : Nat) (Wr : List UInt8) (s : TS) : Prop where
  nm : s.state ≠ 0 → s.iss = iss
  z : s.state = 0 → Wr = []
  ask : s.state = 1 ∨ s.state = 2 → s.una = 0 ∧ s.nxt = 1 ∧ s.top = 1 ∧ s.out = Wr ∧ s.sent = 0 ∧ s.over = false
  go : s.state = 3 ∨ s.state = 4 → s.una = 1 + s.sent + s.over.toNat ∧ s.out = Wr.drop s.sent ∧ s.sent ≤ Wr.length ∧ (s.over = true → s.sent = Wr.length ∧ s.shut = true) ∧ s.una ≤ s.nxt ∧ s.nxt ≤ s.top ∧ s.top ≤ 1 + Wr.length + s.shut.toNat
  pack : ∀ p ∈ s.pack, SP iss Wr s.shut p
theorem SS.of (h : SS iss Wr s) {s' : TS} (e0 : s'.state = s.state) (e1 : s'.iss = s.iss) (e2 : s'.una = s.una) (e3 : s'.nxt = s.nxt) (e4 : s'.top = s.top) (e5 : s'.out = s.out) (e6 : s'.sent = s.sent) (e7 : s'.over = s.over) (e8 : s'.shut = s.shut) (e9 : s'.pack = s.pack) : SS iss Wr s' :=
  ⟨by rw [e0, e1]; exact h.nm, by rw [e0]; exact h.z, by rw [e0, e2, e3, e4, e5, e6, e7]; exact h.ask, by rw [e0, e2, e3, e4, e5, e6, e7, e8]; exact h.go, by rw [e8, e9]; exact h.pack⟩
theorem SS.emit (h : SS iss Wr s) {fl at_ : Nat} {d : List UInt8} (hp : SP iss Wr s.shut (s.mkp fl at_ d)) : SS iss Wr (s.emit fl at_ d) := ⟨h.nm, h.z, h.ask, h.go, fun p hp2 => by
  rcases List.mem_append.1 hp2 with e | e
  · exact h.pack p e
  · rw [List.mem_singleton.1 e]
    exact hp⟩
theorem mkp_fl (s : TS) (fl at_ : Nat) (d : List UInt8) : (s.mkp fl at_ d).fl = (fl : Int) := rfl
theorem SS.bare (h : SS iss Wr s) {fl : Nat} (hf : fl = 2 ∨ fl = 10) (at_ : Nat) : SS iss Wr (s.emit fl at_ []) := by
  refine h.emit (SP.bare rfl ?_ ?_)
  · rw [hasFl (mkp_fl s fl at_ [])]
    rcases hf with rfl | rfl <;> decide +kernel
  · rw [hasFl (mkp_fl s fl at_ [])]
    rcases hf with rfl | rfl <;> decide +kernel
theorem SS.ack (h : SS iss Wr s) : SS iss Wr s.ack := h.bare (.inl rfl) _
theorem SS.syn (h : SS iss Wr s) (h0 : s.state ≠ 0) : SS iss Wr s.syn := by
  have e := h.nm h0
  unfold TS.syn
  split
  · refine h.emit ⟨fun e => absurd rfl e, fun e => ?_, fun _ => e⟩
    rw [hasFl (mkp_fl s 1 _ [])] at e
    exact absurd e (by decide +kernel)
  · refine h.emit ⟨fun e => absurd rfl e, fun e => ?_, fun _ => e⟩
    rw [hasFl (mkp_fl s 3 _ [])] at e
    exact absurd e (by decide +kernel)
theorem SS.refuse (h : SS iss Wr s) (p : Pk) : SS iss Wr (s.refuse p) := by
  unfold TS.refuse
  split
  · rename_i hr
    refine ⟨h.nm, h.z, h.ask, h.go, fun q hq => ?_⟩
    rcases List.mem_append.1 hq with e | e
    · exact h.pack q e
    · rw [List.mem_singleton.1 e]
      unfold Pk.refuse at hr ⊢
      split
      · refine SP.bare rfl ?_ ?_
        · rw [hasFl (f := 10) rfl]
          decide +kernel
        · rw [hasFl (f := 10) rfl]
          decide +kernel
      · rename_i hc
        rw [if_neg hc] at hr
        cases hr
  · exact h
theorem SS.reset (h : SS iss Wr s) (h0 : s.state ≠ 0) : SS iss Wr s.reset := ⟨fun _ => h.nm h0, fun e => absurd (show (5 : Nat) = 0 from e) (by decide), fun e => absurd (show (5 : Nat) = 1 ∨ (5 : Nat) = 2 from e) (by decide), fun e => absurd (show (5 : Nat) = 3 ∨ (5 : Nat) = 4 from e) (by decide), h.pack⟩
theorem not_dead (h : ¬ s.dead = true) : s.state ≠ 0 ∧ s.state ≠ 4 ∧ s.state ≠ 5 := by
  unfold TS.dead at h
  rw [decide_eq_true_eq] at h
  omega
theorem SS.abort (h : SS iss Wr s) : SS iss Wr s.abort := by
  unfold TS.abort
  split
  · exact h
  · rename_i hd
    have h0 := (not_dead hd).1
    split
    · exact h.reset h0
    · exact (h.bare (.inr rfl) _).reset h0
/-- Bytes sent from the next place on. -/
theorem SS.send (h : SS iss Wr s) (h3 : s.state = 3) (hm : 0 < s.may) : SS iss Wr (s.send s.may.toNat) := by
  obtain ⟨g1, g2, g3, g4, g5, g6, g7⟩ := h.go (.inl h3)
  have hi := h.nm (by omega)
  obtain ⟨n, hn⟩ : ∃ n, s.may.toNat = n := ⟨_, rfl⟩
  have hl : s.off + n ≤ s.out.length := by
    have : s.may ≤ (s.out.length : Int) - (s.off : Int) := by unfold TS.may; omega
    omega
  have hn0 : 0 < n := by omega
  have hlen : s.out.length = Wr.length - s.sent := by rw [g2, List.length_drop]
  have hov : s.over = false := by
    cases e : s.over with
    | false => rfl
    | true =>
      have := (g4 e).1
      omega
  have ho : s.over.toNat = 0 := by rw [hov]; rfl
  have hoff : s.nxt = 1 + s.sent + s.off := by unfold TS.off; omega
  rw [hn]
  have h1 : SS iss Wr (s.emit 2 (s.num s.nxt) ((s.out.drop s.off).take n)) := by
    refine h.emit ⟨fun _ => ⟨s.sent + s.off, ?_, ?_, fun k x hk => ?_⟩, fun e => ?_, fun e => ?_⟩
    · show s.num s.nxt = m32 (iss + 1 + (s.sent + s.off))
      unfold TS.num
      rw [hi, hoff]
      congr 1
      omega
    · show s.sent + s.off + ((s.out.drop s.off).take n).length ≤ Wr.length
      rw [List.length_take, List.length_drop]
      omega
    · have hk : ((s.out.drop s.off).take n)[k]? = some x := hk
      have hk2 := hk
      rw [List.getElem?_take] at hk2
      split at hk2
      · rw [List.getElem?_drop, g2, List.getElem?_drop, ← Nat.add_assoc] at hk2
        exact hk2
      · cases hk2
    · rw [hasFl (mkp_fl s 2 _ _)] at e
      exact absurd e (by decide +kernel)
    · rw [hasFl (mkp_fl s 2 _ _)] at e
      exact absurd e (by decide +kernel)
  refine ⟨h1.nm, h1.z, fun e => ?_, fun _ => ⟨g1, g2, g3, g4, ?_, ?_, ?_⟩, h1.pack⟩
  · have e : s.state = 1 ∨ s.state = 2 := e
    omega
  · show s.una ≤ s.nxt + n
    omega
  · show s.nxt + n ≤ max s.top (s.nxt + n)
    omega
  · show max s.top (s.nxt + n) ≤ 1 + Wr.length + s.shut.toNat
    omega
theorem send_state (s : TS) (n : Nat) : (s.send n).state = s.state := rfl
theorem SS.pushL : ∀ (f : Nat) {s : TS}, SS iss Wr s → s.state = 3 → SS iss Wr (TS.pushL f s) ∧ (TS.pushL f s).state = 3
  | 0, _, h, h3 => ⟨h, h3⟩
  | f + 1, s, h, h3 => by
    show SS iss Wr (if s.may ≤ 0 then s else TS.pushL f (s.send s.may.toNat)) ∧ (if s.may ≤ 0 then s else TS.pushL f (s.send s.may.toNat)).state = 3
    split
    · exact ⟨h, h3⟩
    · exact SS.pushL f (h.send h3 (by omega)) h3
theorem SS.pushF (h : SS iss Wr s) (h3 : s.state = 3) : SS iss Wr s.pushF := by
  unfold TS.pushF
  split
  · rename_i hc
    obtain ⟨c1, c2, c3⟩ := hc
    obtain ⟨g1, g2, g3, g4, g5, g6, g7⟩ := h.go (.inl h3)
    have hi := h.nm (by omega)
    have ho : s.over.toNat = 0 := by rw [c2]; rfl
    have hs : s.shut.toNat = 1 := by rw [c1]; rfl
    have hlen : s.out.length = Wr.length - s.sent := by rw [g2, List.length_drop]
    have hn : s.nxt = 1 + Wr.length := by unfold TS.off at c3; omega
    have h1 : SS iss Wr (s.emit 6 (s.num s.nxt) []) := by
      refine h.emit ⟨fun e => absurd rfl e, fun _ => ⟨c1, rfl, ?_⟩, fun e => ?_⟩
      · show s.num s.nxt = m32 (iss + 1 + Wr.length)
        unfold TS.num
        rw [hi, hn]
        congr 1
        omega
      · rw [hasFl (mkp_fl s 6 _ _)] at e
        exact absurd e (by decide +kernel)
    refine ⟨h1.nm, h1.z, fun e => ?_, fun _ => ⟨g1, g2, g3, g4, ?_, ?_, ?_⟩, h1.pack⟩
    · have e : s.state = 1 ∨ s.state = 2 := e
      omega
    · show s.una ≤ s.nxt + 1
      omega
    · show s.nxt + 1 ≤ max s.top (s.nxt + 1)
      omega
    · show max s.top (s.nxt + 1) ≤ 1 + Wr.length + s.shut.toNat
      omega
  · exact h
theorem SS.push (h : SS iss Wr s) : SS iss Wr s.push := by
  unfold TS.push
  split
  · rename_i h3
    obtain ⟨h1, h2⟩ := SS.pushL (s.out.length + 1) h h3
    exact h1.pushF h2
  · exact h
theorem SS.back (h : SS iss Wr s) (h3 : s.state = 3) : SS iss Wr s.back := by
  obtain ⟨g1, g2, g3, g4, g5, g6, g7⟩ := h.go (.inl h3)
  refine ⟨h.nm, h.z, fun e => ?_, fun _ => ⟨g1, g2, g3, g4, Nat.le_refl _, ?_, g7⟩, h.pack⟩
  · have e : s.state = 1 ∨ s.state = 2 := e
    omega
  · show s.una ≤ s.top
    omega
theorem SS.again (h : SS iss Wr s) (h3 : s.state = 3) : SS iss Wr s.again := by
  have hb := h.back h3
  unfold TS.again
  split
  · rename_i hc
    obtain ⟨c1, c2⟩ := hc
    obtain ⟨g1, g2, g3, g4, g5, g6, g7⟩ := hb.go (.inl h3)
    have hi := h.nm (by omega)
    have hlen : s.out.length = Wr.length - s.sent := by
      have := congrArg List.length g2
      rw [List.length_drop] at this
      exact this
    have hov : s.over = false := by
      cases e : s.over with
      | false => rfl
      | true =>
        have : s.sent = Wr.length := (g4 e).1
        omega
    have ho : s.over.toNat = 0 := by rw [hov]; rfl
    have hu : s.una = 1 + s.sent := by
      have : s.una = 1 + s.sent + s.over.toNat := g1
      omega
    have h1 : SS iss Wr (s.back.emit 2 (s.num s.una) (s.out.take 1)) := by
      refine hb.emit ⟨fun _ => ⟨s.sent, ?_, ?_, fun k x hk => ?_⟩, fun e => ?_, fun e => ?_⟩
      · show s.num s.una = m32 (iss + 1 + s.sent)
        unfold TS.num
        rw [hi, hu]
        congr 1
        omega
      · show s.sent + (s.out.take 1).length ≤ Wr.length
        rw [List.length_take]
        omega
      · have hk : (s.out.take 1)[k]? = some x := hk
        have hk2 := hk
        rw [List.getElem?_take] at hk2
        split at hk2
        · have g2 : s.out = Wr.drop s.sent := g2
          rw [g2, List.getElem?_drop] at hk2
          exact hk2
        · cases hk2
      · rw [hasFl (mkp_fl s.back 2 _ _)] at e
        exact absurd e (by decide +kernel)
      · rw [hasFl (mkp_fl s.back 2 _ _)] at e
        exact absurd e (by decide +kernel)
    have g6 : s.una ≤ s.top := g6
    have g7 : s.top ≤ 1 + Wr.length + s.shut.toNat := g7
    refine ⟨h1.nm, h1.z, fun e => ?_, fun _ => ⟨g1, g2, g3, g4, ?_, ?_, ?_⟩, h1.pack⟩
    · have e : s.state = 1 ∨ s.state = 2 := e
      omega
    · show s.una ≤ s.una + 1
      omega
    · show s.una + 1 ≤ max s.top (s.una + 1)
      omega
    · show max s.top (s.una + 1) ≤ 1 + Wr.length + s.shut.toNat
      omega
  · exact hb.push
theorem SS.late (h : SS iss Wr s) (h0 : s.state ≠ 0) : SS iss Wr s.late := by
  have h1 : SS iss Wr ({ s with timer := 0, tries := s.tries + 1 } : TS) := h.of rfl rfl rfl rfl rfl rfl rfl rfl rfl rfl
  unfold TS.late
  dsimp only
  split
  · exact h1.abort
  · split
    · rename_i h3
      exact h1.again h3
    · exact h1.syn h0
theorem SS.tick (h : SS iss Wr s) : SS iss Wr s.tick := by
  unfold TS.tick
  split
  · exact h
  · rename_i hd
    dsimp only
    obtain ⟨t, htt⟩ : ∃ t, (if s.nxt = s.una ∧ s.out.length = 0 then 0 else s.timer + 1) = t := ⟨_, rfl⟩
    rw [htt]
    have h1 : SS iss Wr ({ s with idle := s.idle + 1, timer := t } : TS) := h.of rfl rfl rfl rfl rfl rfl rfl rfl rfl rfl
    split
    · exact h1.abort
    · split
      · exact h1.late (not_dead hd).1
      · split
        · exact h1.bare (.inl rfl) _
        · exact h1
theorem SS.opened (h : SS iss Wr s) (h12 : s.state = 1 ∨ s.state = 2) : SS iss Wr s.opened := by
  obtain ⟨a1, a2, a3, a4, a5, a6⟩ := h.ask h12
  refine ⟨fun _ => h.nm (by omega), fun e => absurd (show (3 : Nat) = 0 from e) (by decide), fun e => absurd (show (3 : Nat) = 1 ∨ (3 : Nat) = 2 from e) (by decide), fun _ => ⟨?_, ?_, ?_, ?_, ?_, ?_, ?_⟩, h.pack⟩
  · show (1 : Nat) = 1 + s.sent + s.over.toNat
    rw [a5, a6]
    rfl
  · show s.out = Wr.drop s.sent
    rw [a4, a5, List.drop_zero]
  · show s.sent ≤ Wr.length
    omega
  · intro e
    have e : s.over = true := e
    rw [a6] at e
    cases e
  · exact Nat.le_refl 1
  · show (1 : Nat) ≤ s.top
    omega
  · show s.top ≤ 1 + Wr.length + s.shut.toNat
    omega
theorem SS.answered (h : SS iss Wr s) (h1 : s.state = 1) (p : Pk) : SS iss Wr (s.answered p) := by
  unfold TS.answered
  dsimp only
  split
  · exact h.refuse p
  · split
    · split
      · exact h.reset (by omega)
      · exact h
    · split
      · have h2 : SS iss Wr ({ s with irs := p.seq, rcv := 1, wnd := p.wn } : TS) := h.of rfl rfl rfl rfl rfl rfl rfl rfl rfl rfl
        exact ((h2.opened (.inl h1)).ack).push
      · exact h
theorem SS.credit (h : SS iss Wr s) (ok : s.Ok) (h34 : s.state = 3 ∨ s.state = 4) (p : Pk) : SS iss Wr (s.credit p).2 := by
  obtain ⟨g1, g2, g3, g4, g5, g6, g7⟩ := h.go h34
  unfold TS.credit
  split
  · exact h
  · rename_i c1
    split
    · exact h
    · rename_i c2
      split
      · exact h.of rfl rfl rfl rfl rfl rfl rfl rfl rfl rfl
      · rename_i c3
        dsimp only
        have hp := credit_place ok (by omega) c1 c2
        obtain ⟨n, hn⟩ : ∃ n, (sd p.ack (s.num s.una)).toNat = n := ⟨_, rfl⟩
        have hn0 : 0 < n := by omega
        rw [hn] at hp ⊢
        have hlen : s.out.length = Wr.length - s.sent := by rw [g2, List.length_drop]
        have hsh : s.shut.toNat ≤ 1 := by cases s.shut <;> decide
        have hov : s.over = false := by
          cases e : s.over with
          | false => rfl
          | true =>
            have h1 := g4 e
            have h2 : s.over.toNat = 1 := by rw [e]; rfl
            omega
        have ho : s.over.toNat = 0 := by rw [hov]; rfl
        refine ⟨h.nm, h.z, fun e => ?_, fun _ => ⟨?_, ?_, ?_, ?_, ?_, ?_, g7⟩, h.pack⟩
        · have e : s.state = 1 ∨ s.state = 2 := e
          omega
        · show s.una + n = 1 + (s.sent + min n s.out.length) + (s.over || decide (min n s.out.length < n)).toNat
          rw [hov, Bool.false_or]
          by_cases hd : min n s.out.length < n
          · rw [decide_eq_true hd]
            have h6 : (true : Bool).toNat = 1 := rfl
            rw [h6]
            omega
          · rw [decide_eq_false hd]
            have h6 : (false : Bool).toNat = 0 := rfl
            rw [h6]
            omega
        · show s.out.drop (min n s.out.length) = Wr.drop (s.sent + min n s.out.length)
          rw [g2, List.drop_drop]
        · show s.sent + min n s.out.length ≤ Wr.length
          omega
        · intro e
          have e : (s.over || decide (min n s.out.length < n)) = true := e
          rw [hov, Bool.false_or, decide_eq_true_eq] at e
          refine ⟨?_, ?_⟩
          · show s.sent + min n s.out.length = Wr.length
            omega
          · show s.shut = true
            cases e2 : s.shut with
            | true => rfl
            | false =>
              have h7 : s.shut.toNat = 0 := by rw [e2]; rfl
              omega
        · show s.una + n ≤ max s.nxt (s.una + n)
          omega
        · show max s.nxt (s.una + n) ≤ s.top
          omega
theorem SS.talk (h : SS iss Wr s) (ok : s.Ok) (hq : s.Qu) (hs : s.state = 2 ∨ s.state = 3 ∨ s.state = 4) (p : Pk) : SS iss Wr (s.talk p) := by
  rw [talk_eq]
  have k1 := ok.talk1 hq
  have h1 : SS iss Wr s.talk1 ∧ (s.talk1.state = 3 ∨ s.talk1.state = 4) := by
    unfold TS.talk1
    split
    · rename_i h2
      exact ⟨h.opened (.inr h2), .inl rfl⟩
    · exact ⟨h, by omega⟩
  split
  · exact h1.1.ack
  · split
    · exact h1.1.ack
    · have h2 := h1.1.credit k1 h1.2 p
      obtain ⟨b1, b2, b3, b4, b5, b6, eb⟩ := talk2_shape (s.talk1.credit p).2 p
      have h3 : SS iss Wr ((s.talk1.credit p).2.talk2 p) := by rw [eb]; exact h2.of rfl rfl rfl rfl rfl rfl rfl rfl rfl rfl
      have h4 : SS iss Wr (((s.talk1.credit p).2.talk2 p).talk3 p) := by
        unfold TS.talk3
        split
        · exact h3.ack
        · exact h3
      have e3 : (((s.talk1.credit p).2.talk2 p).talk3 p).state = s.talk1.state := by
        obtain ⟨ps, e, _⟩ := talk3_shape ((s.talk1.credit p).2.talk2 p) p
        rw [e]
        show ((s.talk1.credit p).2.talk2 p).state = _
        rw [eb]
        obtain ⟨a1, a2, a3, a4, a5, a6, a7, a8, ec⟩ := credit_shape s.talk1 p
        show (s.talk1.credit p).2.state = _
        rw [ec]
      have h5 := h4.push
      have e5 : (((s.talk1.credit p).2.talk2 p).talk3 p).push.state = s.talk1.state := by
        obtain ⟨n, t, ps, e⟩ := push_shape (((s.talk1.credit p).2.talk2 p).talk3 p)
        rw [e]
        exact e3
      unfold TS.talk5
      split
      · refine ⟨fun _ => h5.nm (by omega), fun e => absurd (show (4 : Nat) = 0 from e) (by decide), fun e => absurd (show (4 : Nat) = 1 ∨ (4 : Nat) = 2 from e) (by decide), fun _ => h5.go (by omega), h5.pack⟩
      · exact h5
theorem SS.takes (h : SS iss Wr s) (ok : s.Ok) (hq : s.Qu) (hs : s.state = 2 ∨ s.state = 3 ∨ s.state = 4) (p : Pk) : SS iss Wr (s.takes p) := by
  unfold TS.takes
  split
  · split
    · exact h.reset (by omega)
    · exact h
  · split
    · exact h.syn (by omega)
    · split
      · exact h.ack
      · split
        · exact h
        · split
          · exact h.refuse p
          · exact h.talk ok hq hs p
theorem SS.take (h : SS iss Wr s) (ok : s.Ok) (hq : s.Qu) (p : Pk) : SS iss Wr (s.take p) := by
  unfold TS.take
  split
  · exact h
  · rename_i hc
    have h1 : SS iss Wr ({ s with idle := 0 } : TS) := h.of rfl rfl rfl rfl rfl rfl rfl rfl rfl rfl
    have hst := ok.st
    have h0 : s.state ≠ 0 := fun e => hc (.inl e)
    dsimp only
    split
    · exact h1.refuse p
    · split
      · rename_i h5
        exact h1.answered h5 p
      · rename_i h5 h6
        have h5 : s.state ≠ 5 := h5
        have h6 : s.state ≠ 1 := h6
        exact h1.takes ok.idle0 hq (show s.state = 2 ∨ s.state = 3 ∨ s.state = 4 by omega) p
theorem closed_not (h : ¬ s.closed = true) : s.state ≠ 0 ∧ s.shut = false ∧ s.state ≠ 5 ∧ s.state ≠ 4 := by
  rw [closed_of] at h
  refine ⟨fun e => h (.inl e), ?_, fun e => h (.inr (.inr (.inl e))), fun e => h (.inr (.inr (.inr e)))⟩
  cases e : s.shut with
  | true => exact absurd (.inr (.inl e)) h
  | false => rfl
theorem SS.write (h : SS iss Wr s) (b : List UInt8) : SS iss (Wr ++ b.take (s.write b).1) (s.write b).2 := by
  unfold TS.write
  split
  · show SS iss (Wr ++ b.take 0) s
    rw [List.take_zero, List.append_nil]
    exact h
  · rename_i hc
    obtain ⟨c0, c1, c2, c3⟩ := closed_not hc
    dsimp only
    obtain ⟨y, hy⟩ : ∃ y, b.take (min b.length (1024 - s.out.length)) = y := ⟨_, rfl⟩
    rw [hy]
    refine SS.push ⟨h.nm, fun e => absurd e c0, fun e => ?_, fun e => ?_, fun p hp => ?_⟩
    · obtain ⟨a1, a2, a3, a4, a5, a6⟩ := h.ask e
      exact ⟨a1, a2, a3, by show s.out ++ y = Wr ++ y; rw [a4], a5, a6⟩
    · obtain ⟨g1, g2, g3, g4, g5, g6, g7⟩ := h.go e
      have hov : s.over = false := by
        cases e : s.over with
        | false => rfl
        | true =>
          have := (g4 e).2
          rw [c1] at this
          cases this
      refine ⟨g1, ?_, ?_, fun e => ?_, g5, g6, ?_⟩
      · show s.out ++ y = (Wr ++ y).drop s.sent
        rw [List.drop_append_of_le_length g3, g2]
      · show s.sent ≤ (Wr ++ y).length
        rw [List.length_append]
        omega
      · have e : s.over = true := e
        rw [hov] at e
        cases e
      · show s.top ≤ 1 + (Wr ++ y).length + s.shut.toNat
        rw [List.length_append]
        omega
    · exact (h.pack p hp).more fun e => by rw [c1] at e; cases e
theorem SS.close (h : SS iss Wr s) : SS iss Wr s.close := by
  unfold TS.close
  split
  · rename_i hc
    obtain ⟨c0, c1, c2⟩ := hc
    refine SS.push ⟨h.nm, h.z, h.ask, fun e => ?_, fun p hp => ?_⟩
    · obtain ⟨g1, g2, g3, g4, g5, g6, g7⟩ := h.go e
      refine ⟨g1, g2, g3, fun e => ⟨(g4 e).1, rfl⟩, g5, g6, ?_⟩
      show s.top ≤ 1 + Wr.length + (true : Bool).toNat
      have h6 : (true : Bool).toNat = 1 := rfl
      have h7 : s.shut.toNat = 0 := by rw [c2]; rfl
      omega
    · have := (h.pack p hp).more (b := []) (sh' := true) fun e => ⟨rfl, rfl⟩
      rw [List.append_nil] at this
      exact this
  · exact h
theorem SS.read (h : SS iss Wr s) (n : Int) : SS iss Wr (s.read n).2 := by
  unfold TS.read
  split
  · exact h
  · dsimp only
    have h1 : SS iss Wr ({ s with inn := s.inn.drop (s.readN n), got := s.got + s.readN n } : TS) := h.of rfl rfl rfl rfl rfl rfl rfl rfl rfl rfl
    split
    · exact h1.ack
    · exact h1
theorem SS.outp (h : SS iss Wr s) : SS iss Wr s.outp.2 ∧ ∀ p ∈ s.outp.1, SP iss Wr s.shut p := by
  unfold TS.outp
  split
  · exact ⟨h, fun p hp => by cases hp⟩
  · exact ⟨⟨h.nm, h.z, h.ask, h.go, fun p hp => by cases hp⟩, h.pack⟩
theorem ss_zero (iss : Nat) : SS iss [] zero := ⟨fun e => absurd rfl e, fun _ => rfl, fun e => absurd (show (0 : Nat) = 1 ∨ (0 : Nat) = 2 from e) (by decide), fun e => absurd (show (0 : Nat) = 3 ∨ (0 : Nat) = 4 from e) (by decide), fun p hp => by cases hp⟩
theorem ss_started {src sp dst dp og : Int} {st : Nat} (h12 : st = 1 ∨ st = 2) (iss irs rcv : Nat) (wnd : Int) : SS iss [] ({ ({ zero with src := src, dst := dst, sp := sp, dp := dp, og := og, state := st } : TS).start iss with irs := irs, rcv := rcv, wnd := wnd } : TS).syn := by
  refine SS.syn ⟨fun _ => rfl, fun _ => rfl, fun _ => ⟨rfl, rfl, rfl, rfl, rfl, rfl⟩, fun e => ?_, fun p hp => by cases hp⟩ ?_
  · have e : st = 3 ∨ st = 4 := e
    omega
  · show st ≠ 0
    omega
theorem ss_accept {p : Pk} (h : TS.accept p iss = some s) : SS iss [] s := by
  unfold TS.accept at h
  split at h
  · cases h
  · cases h
    exact ss_started (.inr rfl) iss p.seq 1 p.wn
end TS
end Go.Proofs.Ytjhnnnklfhbebaa
namespace Go.Proofs.Ytjhnnnklfhbebaa
open Go.RowKit
set_option linter.unusedVariables false
set_option linter.unusedSimpArgs false
/-- What is written behind a place, of a row of bytes that may be there. -/
theorem take_some (e : List (Option UInt8)) (W : List UInt8) (N n : Nat) (hn : n ≤ e.length) (h : ∀ k, k < n → ∃ x, e[k]? = some (some x) ∧ W[N + k]? = some x) : (e.take n).map (·.getD 0) = (W.drop N).take n := by
  apply List.ext_getElem?
  intro k
  rw [List.getElem?_map, List.getElem?_take, List.getElem?_take]
  by_cases hk : k < n
  · obtain ⟨x, h1, h2⟩ := h k hk
    rw [if_pos hk, if_pos hk, h1, List.getElem?_drop, h2]
    rfl
  · rw [if_neg hk, if_neg hk]
    rfl
namespace TS
variable {s t : TS} {iss : Nat} {Wr rd : List UInt8} {sh : Bool}
/-- What has come, and is read, of what was written. -/
structure RX (Wr : List UInt8) (sh : Bool) (rd : List UInt8) (t : TS) : Prop where
  len : rd.length + t.inn.length ≤ Wr.length
  eq : rd ++ t.inn = Wr.take (rd.length + t.inn.length)
  rcv : t.rcv = 1 + rd.length + t.inn.length + t.fin.toNat
  early : t.fin = false → ∀ k x, t.early[k]? = some (some x) → Wr[rd.length + t.inn.length + k]? = some x
  told : t.told = true → sh = true ∧ t.fend = 1 + Wr.length
  fin : t.fin = true → t.told = true ∧ rd.length + t.inn.length = Wr.length
structure RR (iss : Nat) (Wr : List UInt8) (sh : Bool) (t : TS) (rd : List UInt8) : Prop where
  pre : rd = Wr.take rd.length
  no : t.state ≤ 1 → rd = [] ∧ t.inn = [] ∧ t.told = false ∧ t.fin = false ∧ ∀ (k : Nat) (x : UInt8), t.early[k]? ≠ some (some x)
  five : t.state = 5 → t.inn = []
  irs : t.state = 2 ∨ t.state = 3 ∨ t.state = 4 → t.irs = iss
  rx : t.state = 2 ∨ t.state = 3 ∨ t.state = 4 → RX Wr sh rd t
theorem RX.more {b : List UInt8} {sh' : Bool} (h : RX Wr sh rd t) (hs : sh = true → sh' = true ∧ b = []) : RX (Wr ++ b) sh' rd t := by
  refine ⟨?_, ?_, h.rcv, fun e k x hk => ?_, fun e => ?_, fun e => ?_⟩
  · rw [List.length_append]
    have := h.len
    omega
  · rw [List.take_append_of_le_length h.len]
    exact h.eq
  · have := h.early e k x hk
    rw [List.getElem?_append_left (List.getElem?_eq_some_iff.1 this).1]
    exact this
  · obtain ⟨h1, h2⟩ := h.told e
    obtain ⟨h3, rfl⟩ := hs h1
    exact ⟨h3, by rw [List.append_nil]; exact h2⟩
  · obtain ⟨h1, h2⟩ := h.fin e
    obtain ⟨h3, rfl⟩ := hs (h.told h1).1
    exact ⟨h1, by rw [List.append_nil]; exact h2⟩
theorem RR.more {b : List UInt8} {sh' : Bool} (h : RR iss Wr sh t rd) (hs : sh = true → sh' = true ∧ b = []) : RR iss (Wr ++ b) sh' t rd := by
  refine ⟨?_, h.no, h.five, h.irs, fun e => (h.rx e).more hs⟩
  have h1 := h.pre
  have h2 : rd.length ≤ Wr.length := by
    have := congrArg List.length h1
    rw [List.length_take] at this
    omega
  rw [List.take_append_of_le_length h2]
  exact h1
/-- The receiver's part stays. -/
structure RSame (s t : TS) : Prop where
  irs : t.irs = s.irs
  rcv : t.rcv = s.rcv
  inn : t.inn = s.inn
  early : t.early = s.early
  told : t.told = s.told
  fend : t.fend = s.fend
  fin : t.fin = s.fin
theorem RSame.trans {u : TS} (h : RSame s t) (k : RSame t u) : RSame s u := ⟨k.irs.trans h.irs, k.rcv.trans h.rcv, k.inn.trans h.inn, k.early.trans h.early, k.told.trans h.told, k.fend.trans h.fend, k.fin.trans h.fin⟩
theorem RX.same (h : RX Wr sh rd s) (e : RSame s t) : RX Wr sh rd t := ⟨by rw [e.inn]; exact h.len, by rw [e.inn]; exact h.eq, by rw [e.inn, e.rcv, e.fin]; exact h.rcv, by rw [e.inn, e.early, e.fin]; exact h.early, by rw [e.told, e.fend]; exact h.told, by rw [e.inn, e.told, e.fin]; exact h.fin⟩
/-- Its state is the same one, or further on, or it is reset. -/
def StOn (a b : Nat) : Prop := a = b ∨ ((a = 2 ∨ a = 3) ∧ (b = 3 ∨ b = 4))
theorem RR.same (h : RR iss Wr sh s rd) (e : RSame s t) (hs : StOn s.state t.state) : RR iss Wr sh t rd := by
  have e2 : t.state ≤ 1 → s.state ≤ 1 := by unfold StOn at hs; omega
  have e3 : t.state = 2 ∨ t.state = 3 ∨ t.state = 4 → s.state = 2 ∨ s.state = 3 ∨ s.state = 4 := by unfold StOn at hs; omega
  have e5 : t.state = 5 → s.state = 5 := by unfold StOn at hs; omega
  refine ⟨h.pre, fun k => ?_, fun k => ?_, fun k => ?_, fun k => (h.rx (e3 k)).same e⟩
  · rw [e.inn, e.told, e.fin, e.early]
    exact h.no (e2 k)
  · rw [e.inn]
    exact h.five (e5 k)
  · rw [e.irs]
    exact h.irs (e3 k)
theorem RR.reset (h : RR iss Wr sh s rd) : RR iss Wr sh s.reset rd := ⟨h.pre, fun e => absurd (show (5 : Nat) ≤ 1 from e) (by decide), fun _ => rfl, fun e => absurd (show (5 : Nat) = 2 ∨ (5 : Nat) = 3 ∨ (5 : Nat) = 4 from e) (by decide), fun e => absurd (show (5 : Nat) = 2 ∨ (5 : Nat) = 3 ∨ (5 : Nat) = 4 from e) (by decide)⟩
theorem rs_refl (s : TS) : RSame s s := ⟨rfl, rfl, rfl, rfl, rfl, rfl, rfl⟩
theorem rs_push (s : TS) : RSame s s.push ∧ s.push.state = s.state := by
  obtain ⟨n, t, ps, e⟩ := push_shape s
  rw [e]
  exact ⟨⟨rfl, rfl, rfl, rfl, rfl, rfl, rfl⟩, rfl⟩
theorem rs_syn (s : TS) : RSame s s.syn ∧ s.syn.state = s.state := by
  unfold TS.syn
  split
  · exact ⟨⟨rfl, rfl, rfl, rfl, rfl, rfl, rfl⟩, rfl⟩
  · exact ⟨⟨rfl, rfl, rfl, rfl, rfl, rfl, rfl⟩, rfl⟩
theorem rs_refuse (s : TS) (p : Pk) : RSame s (s.refuse p) ∧ (s.refuse p).state = s.state := by
  unfold TS.refuse
  split
  · exact ⟨⟨rfl, rfl, rfl, rfl, rfl, rfl, rfl⟩, rfl⟩
  · exact ⟨rs_refl s, rfl⟩
theorem rs_again (s : TS) : RSame s s.again ∧ s.again.state = s.state := by
  unfold TS.again
  split
  · exact ⟨⟨rfl, rfl, rfl, rfl, rfl, rfl, rfl⟩, rfl⟩
  · obtain ⟨h1, h2⟩ := rs_push s.back
    exact ⟨(show RSame s s.back from ⟨rfl, rfl, rfl, rfl, rfl, rfl, rfl⟩).trans h1, h2⟩
theorem RR.keep (h : RR iss Wr sh s rd) (e : RSame s t ∧ t.state = s.state) : RR iss Wr sh t rd := h.same e.1 (.inl e.2.symm)
theorem RR.abort (h : RR iss Wr sh s rd) : RR iss Wr sh s.abort rd := by
  unfold TS.abort
  split
  · exact h
  · split
    · exact h.reset
    · exact RR.reset (h.keep (t := s.emit 10 (s.num s.top) []) ⟨⟨rfl, rfl, rfl, rfl, rfl, rfl, rfl⟩, rfl⟩)
theorem RR.late (h : RR iss Wr sh s rd) : RR iss Wr sh s.late rd := by
  have h1 : RR iss Wr sh ({ s with timer := 0, tries := s.tries + 1 } : TS) rd := h.keep ⟨⟨rfl, rfl, rfl, rfl, rfl, rfl, rfl⟩, rfl⟩
  unfold TS.late
  dsimp only
  split
  · exact h1.abort
  · split
    · exact h1.keep (rs_again _)
    · exact h1.keep (rs_syn _)
theorem RR.tick (h : RR iss Wr sh s rd) : RR iss Wr sh s.tick rd := by
  unfold TS.tick
  split
  · exact h
  · dsimp only
    obtain ⟨t, htt⟩ : ∃ t, (if s.nxt = s.una ∧ s.out.length = 0 then 0 else s.timer + 1) = t := ⟨_, rfl⟩
    rw [htt]
    have h1 : RR iss Wr sh ({ s with idle := s.idle + 1, timer := t } : TS) rd := h.keep ⟨⟨rfl, rfl, rfl, rfl, rfl, rfl, rfl⟩, rfl⟩
    split
    · exact h1.abort
    · split
      · exact h1.late
      · split
        · exact h1.keep ⟨⟨rfl, rfl, rfl, rfl, rfl, rfl, rfl⟩, rfl⟩
        · exact h1
theorem RR.write (h : RR iss Wr sh s rd) (b : List UInt8) : RR iss Wr sh (s.write b).2 rd := by
  unfold TS.write
  split
  · exact h
  · exact RR.keep (s := { s with out := s.out ++ b.take (min b.length (1024 - s.out.length)) }) (h.keep ⟨⟨rfl, rfl, rfl, rfl, rfl, rfl, rfl⟩, rfl⟩) (rs_push _)
theorem RR.close (h : RR iss Wr sh s rd) : RR iss Wr sh s.close rd := by
  unfold TS.close
  split
  · exact RR.keep (s := { s with shut := true }) (h.keep ⟨⟨rfl, rfl, rfl, rfl, rfl, rfl, rfl⟩, rfl⟩) (rs_push _)
  · exact h
theorem RR.outp (h : RR iss Wr sh s rd) : RR iss Wr sh s.outp.2 rd := by
  unfold TS.outp
  split
  · exact h
  · exact h.keep ⟨⟨rfl, rfl, rfl, rfl, rfl, rfl, rfl⟩, rfl⟩
theorem RX.read (h : RX Wr sh rd s) (k : Nat) (hk : k ≤ s.inn.length) {t : TS} (e1 : t.inn = s.inn.drop k) (e2 : t.rcv = s.rcv) (e3 : t.early = s.early) (e4 : t.told = s.told) (e5 : t.fend = s.fend) (e6 : t.fin = s.fin) : RX Wr sh (rd ++ s.inn.take k) t := by
  have hl : (rd ++ s.inn.take k).length + t.inn.length = rd.length + s.inn.length := by
    rw [e1, List.length_append, List.length_take, List.length_drop]
    omega
  refine ⟨?_, ?_, ?_, ?_, ?_, ?_⟩
  · rw [hl]
    exact h.len
  · rw [hl, e1, List.append_assoc, List.take_append_drop]
    exact h.eq
  · rw [e2, e6, h.rcv]
    omega
  · rw [hl, e3, e6]
    exact h.early
  · rw [e4, e5]
    exact h.told
  · rw [hl, e4, e6]
    exact h.fin
theorem RX.pre (h : RX Wr sh rd t) : rd = Wr.take rd.length := by
  have h1 := congrArg (List.take rd.length) h.eq
  rw [List.take_append_of_le_length (Nat.le_refl _), List.take_length, List.take_take] at h1
  rw [show min rd.length (rd.length + t.inn.length) = rd.length by omega] at h1
  exact h1
theorem RR.read (h : RR iss Wr sh s rd) (hst : s.state ≤ 5) (n : Int) : RR iss Wr sh (s.read n).2 (rd ++ (s.read n).1) := by
  unfold TS.read
  split
  · rw [List.append_nil]
    exact h
  · have hk := readN_le s n
    obtain ⟨k, hkk⟩ : ∃ k, s.readN n = k := ⟨_, rfl⟩
    rw [hkk] at hk ⊢
    have h1 : RR iss Wr sh ({ s with inn := s.inn.drop k, got := s.got + k } : TS) (rd ++ s.inn.take k) := by
      by_cases e : s.state = 2 ∨ s.state = 3 ∨ s.state = 4
      · have hx := (h.rx e).read k hk (t := { s with inn := s.inn.drop k, got := s.got + k }) rfl rfl rfl rfl rfl rfl
        exact ⟨hx.pre, fun e2 => (by have e2 : s.state ≤ 1 := e2; omega), fun e2 => (by have e2 : s.state = 5 := e2; omega), h.irs, fun _ => hx⟩
      · have hin : s.inn = [] := by
          by_cases e2 : s.state = 5
          · exact h.five e2
          · exact (h.no (by omega)).2.1
        have e3 : s.inn.take k = [] := by rw [hin, List.take_nil]
        have e4 : s.inn.drop k = s.inn := by rw [hin, List.drop_nil]
        rw [e3, e4, List.append_nil]
        exact h.keep ⟨⟨rfl, rfl, rfl, rfl, rfl, rfl, rfl⟩, rfl⟩
    dsimp only
    split
    · exact h1.keep ⟨⟨rfl, rfl, rfl, rfl, rfl, rfl, rfl⟩, rfl⟩
    · exact h1
/-- A packet's bytes are kept. -/
theorem RX.keep (h : RX Wr sh rd s) (ok : s.Ok) (hf : s.fin = false) (hi : s.irs = iss) {p : Pk} (hp : SP iss Wr sh p) (hq : p.seq < 4294967296) (hl : p.data.length ≤ 128) (hW : Wr.length ≤ 2100000000) : RX Wr sh rd (s.keep p) := by
  have hw : s.window ≤ 1024 := window_le s
  have hr : s.rnum s.rcv < 4294967296 := m32_lt _
  have hci := clip_in p.seq p.data.length (s.rnum s.rcv) s.window hq hr (by omega) hw
  have hff : s.fin.toNat = 0 := by rw [hf]; rfl
  have hrc := h.rcv
  have hlen := h.len
  have hrn : s.rnum s.rcv = m32 (iss + 1 + (rd.length + s.inn.length)) := by
    unfold TS.rnum
    rw [hi, hrc, hff]
    congr 1
    omega
  obtain ⟨N, hN⟩ : ∃ N, rd.length + s.inn.length = N := ⟨_, rfl⟩
  have hearly := h.early hf
  rw [hN] at hrn hlen hearly
  have hwl : s.inn.length ≤ 1024 := ok.inn
  have hws : s.window = 1024 - s.inn.length := rfl
  have h1 : ∀ k x, (setL s.early (sd (m32 (p.seq + (clip p.seq p.data.length (s.rnum s.rcv) s.window).1)) (s.rnum s.rcv)).toNat ((p.data.drop (clip p.seq p.data.length (s.rnum s.rcv) s.window).1).take (clip p.seq p.data.length (s.rnum s.rcv) s.window).2))[k]? = some (some x) → Wr[N + k]? = some x := by
    intro k x hk
    obtain ⟨c, hc⟩ : ∃ c, clip p.seq p.data.length (s.rnum s.rcv) s.window = c := ⟨_, rfl⟩
    rw [hc] at hci hk
    rcases hci with hz | ⟨i1, i2, i3⟩
    · rw [hz, List.take_zero] at hk
      exact hearly k x hk
    · by_cases hz : c.2 = 0
      · rw [hz, List.take_zero] at hk
        exact hearly k x hk
      · have hne : p.data ≠ [] := fun e => by
          rw [e] at i1
          have : c.1 + c.2 ≤ 0 := i1
          omega
        obtain ⟨a, a1, a2, a3⟩ := hp.dat hne
        have hsd : sd (m32 (p.seq + c.1)) (s.rnum s.rcv) = ((a + c.1 : Nat) : Int) - (N : Int) := by
          have e1 : m32 (p.seq + c.1) = m32 (iss + 1 + (a + c.1)) := by
            rw [a1]
            unfold m32
            omega
          rw [e1, hrn]
          exact sd_num (iss + 1) (a + c.1) N (by omega) (by omega)
        rw [hsd] at i2 i3 hk
        obtain ⟨u, hu⟩ : ∃ u, (((a + c.1 : Nat) : Int) - (N : Int)).toNat = u := ⟨_, rfl⟩
        rw [hu] at hk
        have hll : ((p.data.drop c.1).take c.2).length = c.2 := by
          rw [List.length_take, List.length_drop]
          omega
        rw [setL_get _ _ _ _ (by rw [hll, ok.early]; omega), hll] at hk
        split at hk
        · rename_i hb
          have hk := Option.some.inj hk
          rw [List.getElem?_take] at hk
          split at hk
          · rw [List.getElem?_drop] at hk
            have := a3 _ _ hk
            rw [show a + (c.1 + (k - u)) = N + k by omega] at this
            exact this
          · cases hk
        · exact hearly k x hk
  have h2 : RX Wr sh rd ({ s with early := setL s.early (sd (m32 (p.seq + (clip p.seq p.data.length (s.rnum s.rcv) s.window).1)) (s.rnum s.rcv)).toNat ((p.data.drop (clip p.seq p.data.length (s.rnum s.rcv) s.window).1).take (clip p.seq p.data.length (s.rnum s.rcv) s.window).2) } : TS) :=
    ⟨h.len, h.eq, h.rcv, fun _ => by show ∀ k x, _ → Wr[rd.length + s.inn.length + k]? = some x; rw [hN]; exact h1, h.told, h.fin⟩
  unfold TS.keep
  dsimp only
  split
  · rename_i hc
    obtain ⟨c1, c2, c3, c4⟩ := hc
    obtain ⟨f1, f2, f3⟩ := hp.fin c1
    refine ⟨h2.len, h2.eq, h2.rcv, h2.early, fun _ => ⟨f1, ?_⟩, fun e => ?_⟩
    · show s.rcv + (sd (m32 (p.seq + p.data.length)) (s.rnum s.rcv)).toNat = 1 + Wr.length
      have e1 : m32 (p.seq + p.data.length) = m32 (iss + 1 + Wr.length) := by
        rw [f2, f3]
        unfold m32
        show (m32 (iss + 1 + Wr.length) + 0) % 4294967296 = _
        unfold m32
        omega
      rw [e1, hrn, sd_num (iss + 1) Wr.length N (by omega) (by omega)]
      omega
    · have e : s.fin = true := e
      rw [hf] at e
      cases e
  · exact h2
theorem RX.fill (h : RX Wr sh rd s) (ok : s.Ok) (hf : s.fin = false) : RX Wr sh rd s.fill := by
  have hl := lead_le s s.early 0
  have ha : ∀ k, k < s.lead 0 s.early → ∃ x, s.early[k]? = some (some x) ∧ Wr[rd.length + s.inn.length + k]? = some x := fun k hk => by
    have := lead_all (s := s) s.early 0 k (by omega)
    cases e : s.early[k]? with
    | none => rw [e] at this; cases this
    | some y =>
      cases y with
      | none => rw [e] at this; cases this
      | some x => exact ⟨x, rfl, h.early hf k x e⟩
  have hff : s.fin.toNat = 0 := by rw [hf]; rfl
  have hrc := h.rcv
  have hlen := h.len
  have heq := h.eq
  have hearly := h.early hf
  obtain ⟨n, hn⟩ : ∃ n, s.lead 0 s.early = n := ⟨_, rfl⟩
  rw [hn] at hl ha
  obtain ⟨N, hN⟩ : ∃ N, rd.length + s.inn.length = N := ⟨_, rfl⟩
  rw [hN] at hlen heq hearly ha
  have hm := take_some s.early Wr N n (by omega) ha
  have hNn : N + n ≤ Wr.length := by
    by_cases h0 : n = 0
    · omega
    · obtain ⟨x, _, h2⟩ := ha (n - 1) (by omega)
      have := (List.getElem?_eq_some_iff.1 h2).1
      omega
  have hil : (s.inn ++ (s.early.take n).map (·.getD 0)).length = s.inn.length + n := by
    rw [List.length_append, List.length_map, List.length_take]
    omega
  have h1 : RX Wr sh rd ({ s with inn := s.inn ++ (s.early.take n).map (·.getD 0), early := s.early.drop n ++ List.replicate n none, rcv := s.rcv + n } : TS) := by
    refine ⟨?_, ?_, ?_, fun _ k x hk => ?_, h.told, fun e => ?_⟩
    · show rd.length + (s.inn ++ (s.early.take n).map (·.getD 0)).length ≤ Wr.length
      rw [hil]
      omega
    · show rd ++ (s.inn ++ (s.early.take n).map (·.getD 0)) = Wr.take (rd.length + (s.inn ++ (s.early.take n).map (·.getD 0)).length)
      rw [hil, hm, ← List.append_assoc, heq, show rd.length + (s.inn.length + n) = N + n by omega, List.take_add]
    · show s.rcv + n = 1 + rd.length + (s.inn ++ (s.early.take n).map (·.getD 0)).length + s.fin.toNat
      rw [hil]
      omega
    · show Wr[rd.length + (s.inn ++ (s.early.take n).map (·.getD 0)).length + k]? = some x
      rw [hil, show rd.length + (s.inn.length + n) + k = N + (n + k) by omega]
      have hk : (s.early.drop n ++ List.replicate n none)[k]? = some (some x) := hk
      rw [List.getElem?_append] at hk
      split at hk
      · rw [List.getElem?_drop] at hk
        exact hearly _ x hk
      · rw [List.getElem?_replicate] at hk
        split at hk <;> cases hk
    · have e : s.fin = true := e
      rw [hf] at e
      cases e
  unfold TS.fill
  dsimp only
  rw [hn]
  split
  · rename_i hc
    obtain ⟨c1, c2⟩ := hc
    have ht := (h.told c1).2
    refine ⟨h1.len, h1.eq, ?_, fun e => (by cases e), h1.told, fun _ => ⟨c1, ?_⟩⟩
    · show s.rcv + n + 1 = 1 + rd.length + (s.inn ++ (s.early.take n).map (·.getD 0)).length + (true : Bool).toNat
      rw [hil]
      have h6 : (true : Bool).toNat = 1 := rfl
      omega
    · show rd.length + (s.inn ++ (s.early.take n).map (·.getD 0)).length = Wr.length
      rw [hil]
      omega
  · exact h1
theorem RX.talk2 (h : RX Wr sh rd s) (ok : s.Ok) (hi : s.irs = iss) {p : Pk} (hp : SP iss Wr sh p) (hq : p.seq < 4294967296) (hl : p.data.length ≤ 128) (hW : Wr.length ≤ 2100000000) : RX Wr sh rd (s.talk2 p) := by
  unfold TS.talk2
  split
  · rename_i hf
    have h1 := h.keep ok hf hi hp hq hl hW
    obtain ⟨a, b, c, e⟩ := keep_shape s p
    exact h1.fill (ok.keep hq (by omega) hf) (by rw [e]; exact hf)
  · exact h
theorem RR.talk (h : RR iss Wr sh s rd) (ok : s.Ok) (hqu : s.Qu) (hs : s.state = 2 ∨ s.state = 3 ∨ s.state = 4) {p : Pk} (hp : SP iss Wr sh p) (hk : okP p = true) (hin : PkIn p) (hW : Wr.length ≤ 2100000000) : RR iss Wr sh (s.talk p) rd := by
  rw [talk_eq]
  have k1 := ok.talk1 hqu
  obtain ⟨r1, r2, r3, r4, r5⟩ := okP_rows hk
  have h1 : RR iss Wr sh s.talk1 rd ∧ (s.talk1.state = 3 ∨ s.talk1.state = 4) := by
    unfold TS.talk1
    split
    · rename_i h2
      exact ⟨h.same (t := s.opened) ⟨rfl, rfl, rfl, rfl, rfl, rfl, rfl⟩ (.inr ⟨.inl h2, .inl rfl⟩), .inl rfl⟩
    · exact ⟨h, by omega⟩
  obtain ⟨h1, hs1⟩ := h1
  have ha : RR iss Wr sh s.talk1.ack rd := h1.keep ⟨⟨rfl, rfl, rfl, rfl, rfl, rfl, rfl⟩, rfl⟩
  split
  · exact ha
  · split
    · exact ha
    · have kc := k1.credit hs1 (p := p) ⟨r3, r4⟩
      obtain ⟨a1, a2, a3, a4, a5, a6, a7, a8, ec⟩ := credit_shape s.talk1 p
      have h2 : RR iss Wr sh (s.talk1.credit p).2 rd ∧ (s.talk1.credit p).2.state = s.talk1.state := by
        rw [ec]
        exact ⟨h1.keep ⟨⟨rfl, rfl, rfl, rfl, rfl, rfl, rfl⟩, rfl⟩, rfl⟩
      obtain ⟨h2, e2⟩ := h2
      have hx2 := (h2.rx (by omega)).talk2 kc (h2.irs (by omega)) hp hin.seq r5 hW
      obtain ⟨b1, b2, b3, b4, b5, b6, eb⟩ := talk2_shape (s.talk1.credit p).2 p
      have e3 : ((s.talk1.credit p).2.talk2 p).state = s.talk1.state := by rw [eb]; exact e2
      have h3 : RR iss Wr sh ((s.talk1.credit p).2.talk2 p) rd := ⟨h2.pre, fun e => by omega, fun e => by omega, fun _ => (by
        rw [eb]
        exact h2.irs (by omega)), fun _ => hx2⟩
      have h4 : RR iss Wr sh (((s.talk1.credit p).2.talk2 p).talk3 p) rd ∧ (((s.talk1.credit p).2.talk2 p).talk3 p).state = s.talk1.state := by
        obtain ⟨ps, e, _⟩ := talk3_shape ((s.talk1.credit p).2.talk2 p) p
        rw [e]
        exact ⟨h3.keep ⟨⟨rfl, rfl, rfl, rfl, rfl, rfl, rfl⟩, rfl⟩, e3⟩
      obtain ⟨h4, e4⟩ := h4
      have h5 := h4.keep (rs_push _)
      have e5 := (rs_push (((s.talk1.credit p).2.talk2 p).talk3 p)).2
      unfold TS.talk5
      split
      · exact h5.same (t := { (((s.talk1.credit p).2.talk2 p).talk3 p).push with state := 4 }) ⟨rfl, rfl, rfl, rfl, rfl, rfl, rfl⟩ (by
          show StOn _ 4
          unfold StOn
          omega)
      · exact h5
theorem RR.takes (h : RR iss Wr sh s rd) (ok : s.Ok) (hqu : s.Qu) (hs : s.state = 2 ∨ s.state = 3 ∨ s.state = 4) {p : Pk} (hp : SP iss Wr sh p) (hk : okP p = true) (hin : PkIn p) (hW : Wr.length ≤ 2100000000) : RR iss Wr sh (s.takes p) rd := by
  unfold TS.takes
  split
  · split
    · exact h.reset
    · exact h
  · split
    · exact h.keep (rs_syn _)
    · split
      · exact h.keep ⟨⟨rfl, rfl, rfl, rfl, rfl, rfl, rfl⟩, rfl⟩
      · split
        · exact h
        · split
          · exact h.keep (rs_refuse _ _)
          · exact h.talk ok hqu hs hp hk hin hW
theorem RR.answered (h : RR iss Wr sh s rd) (h1 : s.state = 1) {p : Pk} (hp : SP iss Wr sh p) : RR iss Wr sh (s.answered p) rd := by
  unfold TS.answered
  dsimp only
  split
  · exact h.keep (rs_refuse _ _)
  · split
    · split
      · exact h.reset
      · exact h
    · split
      · rename_i hc
        obtain ⟨n1, n2, n3, n4, n5⟩ := h.no (by omega)
        have h2 : RR iss Wr sh ({ s with irs := p.seq, rcv := 1, wnd := p.wn } : TS).opened rd := by
          refine ⟨h.pre, fun e => absurd (show (3 : Nat) ≤ 1 from e) (by decide), fun e => absurd (show (3 : Nat) = 5 from e) (by decide), fun _ => hp.syn hc.1, fun _ => ⟨?_, ?_, ?_, fun _ k x hk => absurd hk (n5 k x), fun e => ?_, fun e => ?_⟩⟩
          · show rd.length + s.inn.length ≤ Wr.length
            rw [n1, n2]
            exact Nat.zero_le _
          · show rd ++ s.inn = Wr.take (rd.length + s.inn.length)
            rw [n1, n2]
            rfl
          · show 1 = 1 + rd.length + s.inn.length + s.fin.toNat
            rw [n1, n2, n4]
            rfl
          · have e : s.told = true := e
            rw [n3] at e
            cases e
          · have e : s.fin = true := e
            rw [n4] at e
            cases e
        exact RR.keep (RR.keep (t := ({ s with irs := p.seq, rcv := 1, wnd := p.wn } : TS).opened.ack) h2 ⟨⟨rfl, rfl, rfl, rfl, rfl, rfl, rfl⟩, rfl⟩) (rs_push _)
      · exact h
theorem RR.take (h : RR iss Wr sh s rd) (ok : s.Ok) (hqu : s.Qu) {p : Pk} (hp : SP iss Wr sh p) (hin : PkIn p) (hW : Wr.length ≤ 2100000000) : RR iss Wr sh (s.take p) rd := by
  unfold TS.take
  split
  · exact h
  · rename_i hc
    have hok : okP p = true := by
      cases e : okP p with
      | true => rfl
      | false => exact absurd (.inr e) hc
    have h1 : RR iss Wr sh ({ s with idle := 0 } : TS) rd := h.keep ⟨⟨rfl, rfl, rfl, rfl, rfl, rfl, rfl⟩, rfl⟩
    have hst := ok.st
    have h0 : s.state ≠ 0 := fun e => hc (.inl e)
    dsimp only
    split
    · exact h1.keep (rs_refuse _ _)
    · split
      · rename_i h5
        exact h1.answered h5 hp
      · rename_i h5 h6
        have h5 : s.state ≠ 5 := h5
        have h6 : s.state ≠ 1 := h6
        exact h1.takes ok.idle0 hqu (show s.state = 2 ∨ s.state = 3 ∨ s.state = 4 by omega) hp hok hin hW
theorem rr_zero (iss : Nat) (Wr : List UInt8) (sh : Bool) : RR iss Wr sh zero [] := ⟨rfl, fun _ => ⟨rfl, rfl, rfl, rfl, fun k x e => by
    have e : (List.replicate 1024 (none : Option UInt8))[k]? = some (some x) := e
    rw [List.getElem?_replicate] at e
    split at e <;> cases e⟩, fun e => absurd (show (0 : Nat) = 5 from e) (by decide), fun e => absurd (show (0 : Nat) = 2 ∨ (0 : Nat) = 3 ∨ (0 : Nat) = 4 from e) (by decide), fun e => absurd (show (0 : Nat) = 2 ∨ (0 : Nat) = 3 ∨ (0 : Nat) = 4 from e) (by decide)⟩
theorem rr_accept {p : Pk} {i : Nat} (hp : SP iss Wr sh p) (h : TS.accept p i = some s) : RR iss Wr sh s [] := by
  unfold TS.accept at h
  split at h
  · cases h
  · rename_i hc
    have hfl : p.fl = 1 := by
      by_cases e : p.fl = 1
      · exact e
      · exact absurd (.inr e) hc
    have hsy : p.seq = iss := hp.syn (by rw [hasFl hfl]; decide +kernel)
    cases h
    refine RR.keep ?_ (rs_syn _)
    refine ⟨rfl, fun e => absurd (show (2 : Nat) ≤ 1 from e) (by decide), fun e => absurd (show (2 : Nat) = 5 from e) (by decide), fun _ => hsy, fun _ => ⟨Nat.zero_le _, rfl, rfl, fun _ k x e => ?_, fun e => ?_, fun e => ?_⟩⟩
    · have e : (List.replicate 1024 (none : Option UInt8))[k]? = some (some x) := e
      rw [List.getElem?_replicate] at e
      split at e <;> cases e
    · have e : false = true := e
      cases e
    · have e : false = true := e
      cases e
end TS
end Go.Proofs.Ytjhnnnklfhbebaa
namespace Go.Proofs.Ytjhnnnklfhbebaa
open Go.RowKit
set_option linter.unusedVariables false
set_option linter.unusedSimpArgs false
namespace TS
variable {s : TS}
theorem sh_push (s : TS) : s.push.shut = s.shut := by
  obtain ⟨n, t, ps, e⟩ := push_shape s
  rw [e]
theorem sh_again (s : TS) : s.again.shut = s.shut := by
  obtain ⟨n, t, ps, e⟩ := again_shape s
  rw [e]
theorem sh_syn (s : TS) : s.syn.shut = s.shut := by
  unfold TS.syn
  split <;> rfl
theorem sh_refuse (s : TS) (p : Pk) : (s.refuse p).shut = s.shut := by
  unfold TS.refuse
  split <;> rfl
theorem sh_abort (s : TS) : s.abort.shut = s.shut := by
  unfold TS.abort
  split
  · rfl
  · split <;> rfl
theorem sh_late (s : TS) : s.late.shut = s.shut := by
  unfold TS.late
  dsimp only
  split
  · exact sh_abort _
  · split
    · exact sh_again _
    · exact sh_syn _
theorem sh_tick (s : TS) : s.tick.shut = s.shut := by
  unfold TS.tick
  split
  · rfl
  · dsimp only
    obtain ⟨t, ht⟩ : ∃ t, (if s.nxt = s.una ∧ s.out.length = 0 then 0 else s.timer + 1) = t := ⟨_, rfl⟩
    rw [ht]
    split
    · exact sh_abort _
    · split
      · exact sh_late _
      · split <;> rfl
theorem sh_read (s : TS) (n : Int) : (s.read n).2.shut = s.shut := by
  unfold TS.read
  split
  · rfl
  · dsimp only
    split <;> rfl
theorem sh_write (s : TS) (b : List UInt8) : (s.write b).2.shut = s.shut := by
  unfold TS.write
  split
  · rfl
  · exact sh_push _
theorem wr_shut (h : s.shut = true) (b : List UInt8) : (s.write b).1 = 0 := by
  unfold TS.write
  rw [if_pos ((closed_of s).2 (.inr (.inl h)))]
theorem sh_talk (s : TS) (p : Pk) : (s.talk p).shut = s.shut := by
  rw [talk_eq]
  have h1 : s.talk1.shut = s.shut := by
    unfold TS.talk1
    split <;> rfl
  split
  · exact h1
  · split
    · exact h1
    · obtain ⟨a1, a2, a3, a4, a5, a6, a7, a8, ec⟩ := credit_shape s.talk1 p
      obtain ⟨b1, b2, b3, b4, b5, b6, eb⟩ := talk2_shape (s.talk1.credit p).2 p
      obtain ⟨ps, e, _⟩ := talk3_shape ((s.talk1.credit p).2.talk2 p) p
      have h2 : (((s.talk1.credit p).2.talk2 p).talk3 p).push.shut = s.shut := by
        rw [sh_push, e]
        show ((s.talk1.credit p).2.talk2 p).shut = s.shut
        rw [eb]
        show (s.talk1.credit p).2.shut = s.shut
        rw [ec]
        exact h1
      unfold TS.talk5
      split
      · exact h2
      · exact h2
theorem sh_takes (s : TS) (p : Pk) : (s.takes p).shut = s.shut := by
  unfold TS.takes
  split
  · split <;> rfl
  · split
    · exact sh_syn _
    · split
      · rfl
      · split
        · rfl
        · split
          · exact sh_refuse _ _
          · exact sh_talk _ _
theorem sh_answered (s : TS) (p : Pk) : (s.answered p).shut = s.shut := by
  unfold TS.answered
  dsimp only
  split
  · exact sh_refuse _ _
  · split
    · split <;> rfl
    · split
      · exact sh_push _
      · rfl
theorem sh_take (s : TS) (p : Pk) : (s.take p).shut = s.shut := by
  unfold TS.take
  split
  · rfl
  · dsimp only
    split
    · exact sh_refuse _ _
    · split
      · exact sh_answered _ _
      · exact sh_takes _ _
theorem sh_close (s : TS) (h : s.shut = true) : s.close.shut = true := by
  unfold TS.close
  split
  · rename_i hc
    rw [hc.2.2] at h
    cases h
  · exact h
end TS
/-- The first number of a side. -/
def isN (iss irs i : Nat) : Nat := if i = 0 then iss else irs
/-- What a pair keeps of the bytes. -/
structure OI (iss irs : Nat) (P : PS) : Prop where
  snd : ∀ i, i < 2 → TS.SS (isN iss irs i) (P.wr i) (P.c i)
  rcv : ∀ i, i < 2 → TS.RR (isN iss irs (1 - i)) (P.wr (1 - i)) (P.c (1 - i)).shut (P.c i) (P.rd i)
  bag : ∀ i, i < 2 → ∀ p ∈ P.bag i, SP (isN iss irs (1 - i)) (P.wr (1 - i)) (P.c (1 - i)).shut p
  num : P.iss = irs
section
variable {iss irs m : Nat} {P Q : PS}
/-- One side does something. -/
theorem OI.step (h : OI iss irs P) {i : Nat} (hi : i < 2) (eo : ∀ j, j < 2 → j ≠ i → Q.c j = P.c j ∧ Q.wr j = P.wr j ∧ Q.rd j = P.rd j) (eb : ∀ j, j < 2 → ∀ p ∈ Q.bag j, p ∈ P.bag j) (en : Q.iss = P.iss) (b : List UInt8)
    (hw : Q.wr i = P.wr i ++ b) (hs : TS.SS (isN iss irs i) (Q.wr i) (Q.c i)) (hr : TS.RR (isN iss irs (1 - i)) (P.wr (1 - i)) (P.c (1 - i)).shut (Q.c i) (Q.rd i)) (hsh : (P.c i).shut = true → (Q.c i).shut = true ∧ b = []) : OI iss irs Q := by
  obtain ⟨o1, o2, o3⟩ := eo (1 - i) (by omega) (by omega)
  have e2 : 1 - (1 - i) = i := by omega
  have hr2 := (h.rcv (1 - i) (by omega)).more (b := b) (sh' := (Q.c i).shut) (by rw [e2]; exact hsh)
  rw [e2, ← o1, ← o3, ← hw] at hr2
  refine ⟨fun j hj => ?_, fun j hj => ?_, fun j hj p hp => ?_, en.trans h.num⟩
  · by_cases e : j = i
    · subst e
      exact hs
    · obtain rfl : j = 1 - i := by omega
      rw [o1, o2]
      exact h.snd _ (by omega)
  · by_cases e : j = i
    · subst e
      rw [o1, o2]
      exact hr
    · obtain rfl : j = 1 - i := by omega
      rw [e2]
      exact hr2
  · have hp2 := h.bag j hj p (eb j hj p hp)
    by_cases e : j = i
    · subst e
      rw [o1, o2]
      exact hp2
    · obtain rfl : j = 1 - i := by omega
      rw [e2] at hp2 ⊢
      rw [hw]
      exact hp2.more hsh
theorem OI.setC (h : OI iss irs P) {i : Nat} (hi : i < 2) {s : TS} (hs : TS.SS (isN iss irs i) (P.wr i) s) (hr : TS.RR (isN iss irs (1 - i)) (P.wr (1 - i)) (P.c (1 - i)).shut s (P.rd i)) (hsh : (P.c i).shut = true → s.shut = true) : OI iss irs (P.setC i s) := by
  refine h.step hi (fun j _ hj => ⟨fset_no _ _ hj, rfl, rfl⟩) (fun j _ p hp => hp) rfl [] (List.append_nil _).symm ?_ ?_ fun e => ⟨?_, rfl⟩
  · show TS.SS _ _ (fset P.c i s i)
    rw [fset_at]
    exact hs
  · show TS.RR _ _ _ (fset P.c i s i) _
    rw [fset_at]
    exact hr
  · show (fset P.c i s i).shut = true
    rw [fset_at]
    exact hsh e
theorem OI.lose (h : OI iss irs P) {i at_ : Nat} : OI iss irs (P.lose i at_) := ⟨h.snd, h.rcv, fun j hj p hp => by
  have hp : p ∈ fset P.bag i ((P.bag i).eraseIdx at_) j := hp
  by_cases e : j = i
  · subst e
    rw [fset_at] at hp
    exact h.bag j hj p (List.mem_of_mem_eraseIdx hp)
  · rw [fset_no _ _ e] at hp
    exact h.bag j hj p hp, h.num⟩
theorem OI.outI (h : OI iss irs P) {i : Nat} (hi : i < 2) : OI iss irs (P.outI i) := by
  have ho := (h.snd i hi).outp
  have hsh : (P.c i).outp.2.shut = (P.c i).shut := by
    unfold TS.outp
    split <;> rfl
  have h1 := h.setC hi ho.1 (h.rcv i hi).outp fun e => by rw [hsh]; exact e
  refine ⟨h1.snd, h1.rcv, fun j hj => ?_, h1.num⟩
  show ∀ p ∈ fset P.bag (1 - i) (addBag (P.bag (1 - i)) (P.c i).outp.1) j, SP _ (P.wr (1 - j)) (fset P.c i (P.c i).outp.2 (1 - j)).shut p
  by_cases e : j = 1 - i
  · subst e
    rw [fset_at, show 1 - (1 - i) = i by omega, fset_at, hsh]
    refine addBag_all _ _ (fun p hp => ?_) ho.2
    have := h.bag (1 - i) hj p hp
    rw [show 1 - (1 - i) = i by omega] at this
    exact this
  · rw [fset_no _ _ e]
    have hj2 : 1 - j ≠ i := by omega
    rw [fset_no _ _ hj2]
    exact h.bag j hj
theorem OI.takes (h : OI iss irs P) (hf : PMid P m) (hz : Zok P) {i : Nat} (hi : i < 2) {x : Pk} (hx : TS.PkIn x) (hp : SP (isN iss irs (1 - i)) (P.wr (1 - i)) (P.c (1 - i)).shut x) (hm : m ≤ 2000000) : OI iss irs (P.takes i x) := by
  unfold PS.takes
  split
  · rename_i hc
    obtain ⟨rfl, hc⟩ := hc
    have hw : P.wr 1 = [] := (h.snd 1 hi).z hc
    have hrd : P.rd 1 = [] := ((h.rcv 1 hi).no (by omega)).1
    have hs0 := (h.snd 1 hi)
    cases ha : TS.accept x P.iss with
    | none =>
      refine h.setC (i := 1) (s := TS.zero) hi ?_ ?_ fun e => ?_
      · rw [hw]
        exact TS.ss_zero _
      · rw [hrd]
        exact TS.rr_zero _ _ _
      · rw [← hz 1 hi hc]
        exact e
    | some s =>
      refine h.setC (i := 1) (s := s) hi ?_ ?_ fun e => ?_
      · rw [hw]
        have := TS.ss_accept ha
        rw [h.num] at this
        exact this
      · rw [hrd]
        exact TS.rr_accept hp ha
      · rw [hz 1 hi hc] at e
        cases e
  · have hf2 := hf.fine i hi
    refine h.setC hi ((h.snd i hi).take hf2.ok hf2.qu x) ((h.rcv i hi).take hf2.ok hf2.qu hp hx ?_) ?_
    · have := hf.wr (1 - i) (by omega)
      omega
    · rw [TS.sh_take]
      exact id
theorem OI.does0 (h : OI iss irs P) (hf : PGood P m) (hm : m ≤ 2000000) (k : ActA) : OI iss irs (P.does0 k) := by
  obtain ⟨i, hii⟩ : ∃ i, sideN k = i := ⟨_, rfl⟩
  have hi : i < 2 := hii ▸ sideN_lt k
  have hs := h.snd i hi
  have hr := h.rcv i hi
  unfold PS.does0
  dsimp only
  rw [hii]
  split
  · exact h.setC hi hs.tick hr.tick (by rw [TS.sh_tick]; exact id)
  · split
    · have hw : fset P.wr i (P.wr i ++ k.b.take ((P.c i).write k.b).1) i = P.wr i ++ k.b.take ((P.c i).write k.b).1 := fset_at _ _ _
      refine h.step (Q := (P.setC i ((P.c i).write k.b).2).setW i (P.wr i ++ k.b.take ((P.c i).write k.b).1)) hi (fun j _ hj => ⟨fset_no _ _ hj, fset_no _ _ hj, rfl⟩) (fun j _ p hp => hp) rfl (k.b.take ((P.c i).write k.b).1) hw ?_ ?_ fun e => ⟨?_, ?_⟩
      · show TS.SS _ (fset P.wr i (P.wr i ++ k.b.take ((P.c i).write k.b).1) i) (fset P.c i ((P.c i).write k.b).2 i)
        rw [fset_at, fset_at]
        exact hs.write k.b
      · show TS.RR _ _ _ (fset P.c i ((P.c i).write k.b).2 i) _
        rw [fset_at]
        exact hr.write k.b
      · show (fset P.c i ((P.c i).write k.b).2 i).shut = true
        rw [fset_at, TS.sh_write]
        exact e
      · rw [TS.wr_shut e]
        rfl
    · split
      · refine h.step (Q := (P.setC i ((P.c i).read k.n).2).setR i (P.rd i ++ ((P.c i).read k.n).1)) hi (fun j _ hj => ⟨fset_no _ _ hj, rfl, fset_no _ _ hj⟩) (fun j _ p hp => hp) rfl [] (List.append_nil _).symm ?_ ?_ fun e => ⟨?_, rfl⟩
        · show TS.SS _ _ (fset P.c i ((P.c i).read k.n).2 i)
          rw [fset_at]
          exact hs.read k.n
        · show TS.RR _ _ _ (fset P.c i ((P.c i).read k.n).2 i) (fset P.rd i (P.rd i ++ ((P.c i).read k.n).1) i)
          rw [fset_at, fset_at]
          exact hr.read (hf.fine.fine i hi).ok.st k.n
        · show (fset P.c i ((P.c i).read k.n).2 i).shut = true
          rw [fset_at, TS.sh_read]
          exact e
      · split
        · split
          · exact h.setC hi hs.close hr.close (TS.sh_close _)
          · exact h
        · split
          · split
            · exact h.setC hi hs.abort hr.abort (by rw [TS.sh_abort]; exact id)
            · exact h
          · split
            · exact h
            · rename_i hb
              have hlt : u64N k.at_ % (P.bag i).length < (P.bag i).length := Nat.mod_lt _ (by omega)
              split
              · exact h.lose
              · have hmem : (P.bag i).getD (u64N k.at_ % (P.bag i).length) Pk.zero ∈ P.bag i := by
                  rw [List.getD_eq_getElem?_getD, List.getElem?_eq_getElem hlt]
                  exact List.getElem_mem hlt
                have hx := (hf.fine.bok i hi _ hmem).2
                have hp := h.bag i hi _ hmem
                unfold PS.comes
                split
                · exact h.takes hf.fine.toPMid hf.zok hi hx hp hm
                · exact OI.takes (P := P.lose i _) h.lose (pmid_lose hf.fine.toPMid hi) (show Zok (P.lose i _) from hf.zok) hi hx hp hm
theorem OI.does (h : OI iss irs P) (hf : PGood P m) (hm : m ≤ 2000000) (k : ActA) : OI iss irs (P.does k) := ((h.does0 hf hm k).outI (by omega)).outI (by omega)
end
theorem begun_oi (iss irs : Nat) : OI iss irs (PS.begun iss irs) := by
  have h : OI iss irs (PS.asked (askS iss) irs) := by
    refine ⟨fun i hi => ?_, fun i hi => ?_, fun i hi p hp => (by cases hp), rfl⟩
    · rcases two_cases hi with rfl | rfl
      · exact TS.ss_started (.inl rfl) iss 0 0 0
      · exact TS.ss_zero irs
    · rcases two_cases hi with rfl | rfl
      · exact TS.RR.keep (s := ({ TS.zero with src := 1, dst := 2, sp := 1000, dp := 80, og := 0, state := 1 } : TS).start iss) ⟨(TS.rr_zero (isN iss irs (1 - 0)) [] false).pre, fun _ => (TS.rr_zero (isN iss irs (1 - 0)) [] false).no (Nat.zero_le _), fun _ => rfl, fun e => absurd (show (1 : Nat) = 2 ∨ (1 : Nat) = 3 ∨ (1 : Nat) = 4 from e) (by decide), fun e => absurd (show (1 : Nat) = 2 ∨ (1 : Nat) = 3 ∨ (1 : Nat) = 4 from e) (by decide)⟩ (TS.rs_syn _)
      · exact TS.rr_zero _ _ _
  exact (h.outI (i := 0) (by omega)).outI (i := 1) (by omega)
/-- What the law asks. -/
structure RightAt (P : PS) : Prop where
  pre : ∀ i, i < 2 → P.rd i = (P.wr (1 - i)).take (P.rd i).length
  all : ∀ i, i < 2 → (P.c i).state ≠ 0 → (P.c i).state ≠ 5 → (P.c i).fin = true → (P.c i).inn = [] → P.wr (1 - i) = P.rd i ∧ (P.c (1 - i)).state ≠ 0 ∧ (P.c (1 - i)).shut = true
theorem OI.right {iss irs : Nat} {P : PS} (h : OI iss irs P) (hz : Zok P) (hst : ∀ i, i < 2 → (P.c i).state ≤ 5) : RightAt P := by
  refine ⟨fun i hi => (h.rcv i hi).pre, fun i hi h0 h5 hf hin => ?_⟩
  have hr := h.rcv i hi
  have h1 : ¬ (P.c i).state ≤ 1 := fun e => by
    have := (hr.no e).2.2.2.1
    rw [hf] at this
    cases this
  have hs := hst i hi
  have hx := hr.rx (by omega)
  obtain ⟨f1, f2⟩ := hx.fin hf
  have f3 := (hx.told f1).1
  have he := hx.eq
  rw [f2, List.take_length, hin, List.append_nil] at he
  refine ⟨he.symm, fun e => ?_, f3⟩
  rw [hz (1 - i) (by omega) e] at f3
  cases f3
end Go.Proofs.Ytjhnnnklfhbebaa
