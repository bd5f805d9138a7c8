/- tcp: each packet that an endpoint puts out may be (plain). -/
import Derived.Test.YtjhnnnklfhbebaaTiD
namespace Go.Proofs.Ytjhnnnklfhbebaa
open Go.RowKit
set_option linter.unusedVariables false
/-- A packet that may be. -/
def PkOk (p : Pk) : Prop := okP p = true ∧ TS.PkIn p
theorem okP_iff (p : Pk) : okP p = true ↔ (1 ≤ p.src ∧ p.src ≤ 4) ∧ (1 ≤ p.dst ∧ p.dst ≤ 4) ∧ p.src ≠ p.dst ∧ (1 ≤ p.sp ∧ p.sp ≤ 65535) ∧ (1 ≤ p.dp ∧ p.dp ≤ 65535) ∧ (0 ≤ p.fl ∧ p.fl ≤ 15) ∧ (0 ≤ p.wn ∧ p.wn ≤ 65535) ∧ (0 ≤ p.pr ∧ p.pr ≤ 1099511627776) ∧ (0 ≤ p.og ∧ p.og ≤ 65535) ∧ p.data.length ≤ 128 := by
  unfold okP okN
  simp only [Bool.and_eq_true, decide_eq_true_eq]
namespace TS
variable {s : TS}
/-- Who it is may be, and each packet that it has put out. -/
structure Good (s : TS) : Prop where
  names : okP (dialP s.src s.sp s.dst s.dp s.og) = true
  packs : ∀ p ∈ s.pack, PkOk p
theorem mkp_ok (h : okP (dialP s.src s.sp s.dst s.dp s.og) = true) {fl at_ : Nat} {d : List UInt8} (hf : fl ≤ 15) (ha : at_ < 4294967296) (hd : d.length ≤ 128) : PkOk (s.mkp fl at_ d) := by
  rw [okP_iff] at h
  obtain ⟨h1, h2, h3, h4, h5, _, _, _, h9, _⟩ := h
  refine ⟨?_, ha, ?_⟩
  · rw [okP_iff]
    refine ⟨h1, h2, h3, h4, h5, ?_, ?_, ?_, ?_, hd⟩
    · show (0 : Int) ≤ (fl : Int) ∧ (fl : Int) ≤ 15
      omega
    · have := window_le s
      show (0 : Int) ≤ (s.window : Int) ∧ (s.window : Int) ≤ 65535
      omega
    · show (0 : Int) ≤ 0 ∧ (0 : Int) ≤ 1099511627776
      omega
    · show (0 : Int) ≤ (if fl % 2 = 1 then s.og else 0) ∧ (if fl % 2 = 1 then s.og else 0) ≤ 65535
      split
      · exact h9
      · omega
  · show (if fl / 2 % 2 = 1 then s.rnum s.rcv else 0) < 4294967296
    split
    · exact m32_lt _
    · decide
theorem Good.emit (h : s.Good) {fl at_ : Nat} {d : List UInt8} (hf : fl ≤ 15) (ha : at_ < 4294967296) (hd : d.length ≤ 128) : (s.emit fl at_ d).Good := ⟨h.names, fun p hp => by
  rcases List.mem_append.1 hp with hp | hp
  · exact h.packs p hp
  · rw [List.mem_singleton.1 hp]
    exact mkp_ok h.names hf ha hd⟩
theorem num_lt (s : TS) (a : Nat) : s.num a < 4294967296 := m32_lt _
theorem Good.ack (h : s.Good) : s.ack.Good := h.emit (by decide) (num_lt _ _) (by decide)
theorem Good.syn (h : s.Good) (hi : s.iss < 4294967296) : s.syn.Good := by
  unfold TS.syn
  split <;> exact h.emit (by decide) hi (by decide)
theorem refuse_ok {p : Pk} (hp : PkOk p) (h : (p.refuse p.data.length).2 = true) : PkOk (p.refuse p.data.length).1 := by
  obtain ⟨h1, h2⟩ := hp
  rw [okP_iff] at h1
  obtain ⟨g1, g2, g3, g4, g5, _⟩ := h1
  unfold Pk.refuse at h ⊢
  split
  · refine ⟨?_, ?_, Nat.mod_lt _ (by decide)⟩
    · rw [okP_iff]
      exact ⟨g2, g1, fun e => g3 e.symm, g5, g4, show (0 : Int) ≤ 10 ∧ (10 : Int) ≤ 15 by decide, show (0 : Int) ≤ 0 ∧ (0 : Int) ≤ 65535 by decide, show (0 : Int) ≤ 0 ∧ (0 : Int) ≤ 1099511627776 by decide, show (0 : Int) ≤ 0 ∧ (0 : Int) ≤ 65535 by decide, Nat.zero_le _⟩
    · show (if bits .and .i64 p.fl 2 = 0 then 0 else p.ack) < 4294967296
      split
      · decide
      · exact h2.ack
  · rename_i hc
    rw [if_neg hc] at h
    cases h
theorem Good.refuse (h : s.Good) {p : Pk} (hp : PkOk p) : (s.refuse p).Good := by
  unfold TS.refuse
  split
  · rename_i hr
    exact ⟨h.names, fun q hq => by
      rcases List.mem_append.1 hq with hq | hq
      · exact h.packs q hq
      · rw [List.mem_singleton.1 hq]
        exact refuse_ok hp hr⟩
  · exact h
/-- Others of its numbers do not matter. -/
theorem Good.of (h : s.Good) {s' : TS} (e1 : s'.src = s.src) (e2 : s'.sp = s.sp) (e3 : s'.dst = s.dst) (e4 : s'.dp = s.dp) (e5 : s'.og = s.og) (e6 : s'.pack = s.pack) : s'.Good := ⟨by rw [e1, e2, e3, e4, e5]; exact h.names, by rw [e6]; exact h.packs⟩
theorem Good.send (h : s.Good) : (s.send s.may.toNat).Good := by
  have hm := (may_le s).2
  unfold TS.send
  have hd : ((s.out.drop s.off).take s.may.toNat).length ≤ 128 := by rw [List.length_take]; omega
  exact (h.emit (fl := 2) (by decide) (num_lt s s.nxt) hd).of rfl rfl rfl rfl rfl rfl
theorem Good.pushL : ∀ (f : Nat) {s : TS}, s.Good → (TS.pushL f s).Good
  | 0, _, h => h
  | f + 1, s, h => by
    show (if s.may ≤ 0 then s else TS.pushL f (s.send s.may.toNat)).Good
    split
    · exact h
    · exact Good.pushL f h.send
theorem Good.push (h : s.Good) : s.push.Good := by
  unfold TS.push
  split
  · have h1 := Good.pushL (s.out.length + 1) h
    unfold TS.pushF
    split
    · exact (h1.emit (fl := 6) (by decide) (num_lt _ _) (by decide)).of rfl rfl rfl rfl rfl rfl
    · exact h1
  · exact h
theorem Good.again (h : s.Good) : s.again.Good := by
  have hb : s.back.Good := h.of rfl rfl rfl rfl rfl rfl
  unfold TS.again
  split
  · have hd : (s.out.take 1).length ≤ 128 := by rw [List.length_take]; omega
    exact (hb.emit (fl := 2) (by decide) (num_lt s s.una) hd).of rfl rfl rfl rfl rfl rfl
  · exact hb.push
theorem Good.abort (h : s.Good) : s.abort.Good := by
  unfold TS.abort
  split
  · exact h
  · split
    · exact h.of rfl rfl rfl rfl rfl rfl
    · exact (h.emit (fl := 10) (by decide) (num_lt s s.top) (by decide : ([] : List UInt8).length ≤ 128)).of rfl rfl rfl rfl rfl rfl
theorem Good.late (h : s.Good) (hi : s.iss < 4294967296) : s.late.Good := by
  have h1 : ({ s with timer := 0, tries := s.tries + 1 } : TS).Good := h.of rfl rfl rfl rfl rfl rfl
  unfold TS.late
  dsimp only
  split
  · exact h1.abort
  · split
    · exact h1.again
    · exact h1.syn hi
theorem Good.tick (h : s.Good) (hi : s.iss < 4294967296) : s.tick.Good := by
  unfold TS.tick
  split
  · exact h
  · dsimp only
    obtain ⟨t, htt⟩ : ∃ t, (if s.nxt = s.una ∧ s.out.length = 0 then 0 else s.timer + 1) = t := ⟨_, rfl⟩
    rw [htt]
    have h1 : ({ s with idle := s.idle + 1, timer := t } : TS).Good := h.of rfl rfl rfl rfl rfl rfl
    split
    · exact h1.abort
    · split
      · exact h1.late hi
      · split
        · exact h1.emit (fl := 2) (by decide) (num_lt _ _) (by decide)
        · exact h1
theorem Good.answered (h : s.Good) {p : Pk} (hp : PkOk p) : (s.answered p).Good := by
  unfold TS.answered
  dsimp only
  split
  · exact h.refuse hp
  · split
    · split
      · exact h.of rfl rfl rfl rfl rfl rfl
      · exact h
    · split
      · have h1 : ({ s with irs := p.seq, rcv := 1, wnd := p.wn } : TS).opened.Good := h.of rfl rfl rfl rfl rfl rfl
        exact h1.ack.push
      · exact h
theorem Good.talk (h : s.Good) (p : Pk) : (s.talk p).Good := by
  rw [talk_eq]
  have h1 : s.talk1.Good := by
    unfold TS.talk1
    split
    · exact h.of rfl rfl rfl rfl rfl rfl
    · exact h
  split
  · exact h1.ack
  · split
    · exact h1.ack
    · obtain ⟨a1, a2, a3, a4, a5, a6, a7, a8, ec⟩ := credit_shape s.talk1 p
      obtain ⟨b1, b2, b3, b4, b5, b6, eb⟩ := talk2_shape (s.talk1.credit p).2 p
      have h2 : ((s.talk1.credit p).2.talk2 p).Good := by rw [eb, ec]; exact h1.of rfl rfl rfl rfl rfl rfl
      have h3 : (((s.talk1.credit p).2.talk2 p).talk3 p).Good := by
        unfold TS.talk3
        split
        · exact h2.ack
        · exact h2
      have h4 := h3.push
      unfold TS.talk5
      split
      · exact h4.of rfl rfl rfl rfl rfl rfl
      · exact h4
theorem Good.takes (h : s.Good) (hi : s.iss < 4294967296) {p : Pk} (hp : PkOk p) : (s.takes p).Good := by
  unfold TS.takes
  split
  · split
    · exact h.of rfl rfl rfl rfl rfl rfl
    · exact h
  · split
    · exact h.syn hi
    · split
      · exact h.ack
      · split
        · exact h
        · split
          · exact h.refuse hp
          · exact h.talk p
theorem Good.take (h : s.Good) (hi : s.iss < 4294967296) {p : Pk} (hp : TS.PkIn p) : (s.take p).Good := by
  unfold TS.take
  split
  · exact h
  · rename_i hc
    have hok : PkOk p := ⟨by
      cases e : okP p with
      | true => rfl
      | false => exact absurd (.inr e) hc, hp⟩
    have h1 : ({ s with idle := 0 } : TS).Good := h.of rfl rfl rfl rfl rfl rfl
    dsimp only
    split
    · exact h1.refuse hok
    · split
      · exact h1.answered hok
      · exact h1.takes hi hok
theorem Good.write (h : s.Good) (b : List UInt8) : (s.write b).2.Good := by
  unfold TS.write
  split
  · exact h
  · exact Good.push (h.of rfl rfl rfl rfl rfl rfl)
theorem Good.close (h : s.Good) : s.close.Good := by
  unfold TS.close
  split
  · exact Good.push (h.of rfl rfl rfl rfl rfl rfl)
  · exact h
theorem Good.read (h : s.Good) (n : Int) : (s.read n).2.Good := by
  unfold TS.read
  split
  · exact h
  · dsimp only
    have h1 : ({ s with inn := s.inn.drop (s.readN n), got := s.got + s.readN n } : TS).Good := h.of rfl rfl rfl rfl rfl rfl
    split
    · exact h1.ack
    · exact h1
theorem Good.outp (h : s.Good) : s.outp.2.Good ∧ ∀ p ∈ s.outp.1, PkOk p := by
  unfold TS.outp
  split
  · exact ⟨h, fun p hp => by cases hp⟩
  · exact ⟨⟨h.names, fun p hp => by cases hp⟩, h.packs⟩
theorem dial_good {src sp dst dp og : Int} {iss : Nat} (hi : iss < 4294967296) (h : TS.dial src sp dst dp og iss = some s) : s.Good := by
  unfold TS.dial at h
  split at h
  · cases h
  · rename_i hc
    cases h
    have hok : okP (dialP src sp dst dp og) = true := by
      cases e : okP (dialP src sp dst dp og) with
      | true => rfl
      | false => exact absurd e hc
    exact Good.syn (s := ({ TS.zero with src := src, dst := dst, sp := sp, dp := dp, og := og, state := 1 } : TS).start iss) ⟨hok, fun p hp => by cases hp⟩ hi
theorem accept_good {p : Pk} (hp : TS.PkIn p) {iss : Nat} (hi : iss < 4294967296) (h : TS.accept p iss = some s) : s.Good := by
  unfold TS.accept at h
  split at h
  · cases h
  · rename_i hc
    have hok : okP p = true := by
      cases e : okP p with
      | true => rfl
      | false => exact absurd (.inl e) hc
    cases h
    rw [okP_iff] at hok
    obtain ⟨g1, g2, g3, g4, g5, _⟩ := hok
    refine Good.syn (s := ({ ({ TS.zero with src := p.dst, dst := p.src, sp := p.dp, dp := p.sp, state := 2 } : TS).start iss with irs := p.seq, rcv := 1, wnd := p.wn } : TS)) ⟨?_, fun p hp => by cases hp⟩ hi
    rw [okP_iff]
    exact ⟨g2, g1, fun e => g3 e.symm, g5, g4, show (0 : Int) ≤ 0 ∧ (0 : Int) ≤ 15 by decide, show (0 : Int) ≤ 0 ∧ (0 : Int) ≤ 65535 by decide, show (0 : Int) ≤ 0 ∧ (0 : Int) ≤ 1099511627776 by decide, show (0 : Int) ≤ 0 ∧ (0 : Int) ≤ 65535 by decide, Nat.zero_le _⟩
end TS
end Go.Proofs.Ytjhnnnklfhbebaa
