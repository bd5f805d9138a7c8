/- tcp: what came is a beginning of what was written (plain). -/
import Derived.Test.YtjhnnnklfhbebaaTiO
namespace Go.Proofs.Ytjhnnnklfhbebaa
open Go.RowKit
set_option linter.unusedVariables false
set_option linter.unusedSimpArgs false
/-- What is written behind a place, of a row of bytes that may be there. -/
theorem take_some (e : List (Option UInt8)) (W : List UInt8) (N n : Nat) (hn : n ≤ e.length) (h : ∀ k, k < n → ∃ x, e[k]? = some (some x) ∧ W[N + k]? = some x) : (e.take n).map (·.getD 0) = (W.drop N).take n := by
  apply List.ext_getElem?
  intro k
  rw [List.getElem?_map, List.getElem?_take, List.getElem?_take]
  by_cases hk : k < n
  · obtain ⟨x, h1, h2⟩ := h k hk
    rw [if_pos hk, if_pos hk, h1, List.getElem?_drop, h2]
    rfl
  · rw [if_neg hk, if_neg hk]
    rfl
namespace TS
variable {s t : TS} {iss : Nat} {Wr rd : List UInt8} {sh : Bool}
/-- What has come, and is read, of what was written. -/
structure RX (Wr : List UInt8) (sh : Bool) (rd : List UInt8) (t : TS) : Prop where
  len : rd.length + t.inn.length ≤ Wr.length
  eq : rd ++ t.inn = Wr.take (rd.length + t.inn.length)
  rcv : t.rcv = 1 + rd.length + t.inn.length + t.fin.toNat
  early : t.fin = false → ∀ k x, t.early[k]? = some (some x) → Wr[rd.length + t.inn.length + k]? = some x
  told : t.told = true → sh = true ∧ t.fend = 1 + Wr.length
  fin : t.fin = true → t.told = true ∧ rd.length + t.inn.length = Wr.length
structure RR (iss : Nat) (Wr : List UInt8) (sh : Bool) (t : TS) (rd : List UInt8) : Prop where
  pre : rd = Wr.take rd.length
  no : t.state ≤ 1 → rd = [] ∧ t.inn = [] ∧ t.told = false ∧ t.fin = false ∧ ∀ (k : Nat) (x : UInt8), t.early[k]? ≠ some (some x)
  five : t.state = 5 → t.inn = []
  irs : t.state = 2 ∨ t.state = 3 ∨ t.state = 4 → t.irs = iss
  rx : t.state = 2 ∨ t.state = 3 ∨ t.state = 4 → RX Wr sh rd t
theorem RX.more {b : List UInt8} {sh' : Bool} (h : RX Wr sh rd t) (hs : sh = true → sh' = true ∧ b = []) : RX (Wr ++ b) sh' rd t := by
  refine ⟨?_, ?_, h.rcv, fun e k x hk => ?_, fun e => ?_, fun e => ?_⟩
  · rw [List.length_append]
    have := h.len
    omega
  · rw [List.take_append_of_le_length h.len]
    exact h.eq
  · have := h.early e k x hk
    rw [List.getElem?_append_left (List.getElem?_eq_some_iff.1 this).1]
    exact this
  · obtain ⟨h1, h2⟩ := h.told e
    obtain ⟨h3, rfl⟩ := hs h1
    exact ⟨h3, by rw [List.append_nil]; exact h2⟩
  · obtain ⟨h1, h2⟩ := h.fin e
    obtain ⟨h3, rfl⟩ := hs (h.told h1).1
    exact ⟨h1, by rw [List.append_nil]; exact h2⟩
theorem RR.more {b : List UInt8} {sh' : Bool} (h : RR iss Wr sh t rd) (hs : sh = true → sh' = true ∧ b = []) : RR iss (Wr ++ b) sh' t rd := by
  refine ⟨?_, h.no, h.five, h.irs, fun e => (h.rx e).more hs⟩
  have h1 := h.pre
  have h2 : rd.length ≤ Wr.length := by
    have := congrArg List.length h1
    rw [List.length_take] at this
    omega
  rw [List.take_append_of_le_length h2]
  exact h1
/-- The receiver's part stays. -/
structure RSame (s t : TS) : Prop where
  irs : t.irs = s.irs
  rcv : t.rcv = s.rcv
  inn : t.inn = s.inn
  early : t.early = s.early
  told : t.told = s.told
  fend : t.fend = s.fend
  fin : t.fin = s.fin
theorem RSame.trans {u : TS} (h : RSame s t) (k : RSame t u) : RSame s u := ⟨k.irs.trans h.irs, k.rcv.trans h.rcv, k.inn.trans h.inn, k.early.trans h.early, k.told.trans h.told, k.fend.trans h.fend, k.fin.trans h.fin⟩
theorem RX.same (h : RX Wr sh rd s) (e : RSame s t) : RX Wr sh rd t := ⟨by rw [e.inn]; exact h.len, by rw [e.inn]; exact h.eq, by rw [e.inn, e.rcv, e.fin]; exact h.rcv, by rw [e.inn, e.early, e.fin]; exact h.early, by rw [e.told, e.fend]; exact h.told, by rw [e.inn, e.told, e.fin]; exact h.fin⟩
/-- Its state is the same one, or further on, or it is reset. -/
def StOn (a b : Nat) : Prop := a = b ∨ ((a = 2 ∨ a = 3) ∧ (b = 3 ∨ b = 4))
theorem RR.same (h : RR iss Wr sh s rd) (e : RSame s t) (hs : StOn s.state t.state) : RR iss Wr sh t rd := by
  have e2 : t.state ≤ 1 → s.state ≤ 1 := by unfold StOn at hs; omega
  have e3 : t.state = 2 ∨ t.state = 3 ∨ t.state = 4 → s.state = 2 ∨ s.state = 3 ∨ s.state = 4 := by unfold StOn at hs; omega
  have e5 : t.state = 5 → s.state = 5 := by unfold StOn at hs; omega
  refine ⟨h.pre, fun k => ?_, fun k => ?_, fun k => ?_, fun k => (h.rx (e3 k)).same e⟩
  · rw [e.inn, e.told, e.fin, e.early]
    exact h.no (e2 k)
  · rw [e.inn]
    exact h.five (e5 k)
  · rw [e.irs]
    exact h.irs (e3 k)
theorem RR.reset (h : RR iss Wr sh s rd) : RR iss Wr sh s.reset rd := ⟨h.pre, fun e => absurd (show (5 : Nat) ≤ 1 from e) (by decide), fun _ => rfl, fun e => absurd (show (5 : Nat) = 2 ∨ (5 : Nat) = 3 ∨ (5 : Nat) = 4 from e) (by decide), fun e => absurd (show (5 : Nat) = 2 ∨ (5 : Nat) = 3 ∨ (5 : Nat) = 4 from e) (by decide)⟩
theorem rs_refl (s : TS) : RSame s s := ⟨rfl, rfl, rfl, rfl, rfl, rfl, rfl⟩
theorem rs_push (s : TS) : RSame s s.push ∧ s.push.state = s.state := by
  obtain ⟨n, t, ps, e⟩ := push_shape s
  rw [e]
  exact ⟨⟨rfl, rfl, rfl, rfl, rfl, rfl, rfl⟩, rfl⟩
theorem rs_syn (s : TS) : RSame s s.syn ∧ s.syn.state = s.state := by
  unfold TS.syn
  split
  · exact ⟨⟨rfl, rfl, rfl, rfl, rfl, rfl, rfl⟩, rfl⟩
  · exact ⟨⟨rfl, rfl, rfl, rfl, rfl, rfl, rfl⟩, rfl⟩
theorem rs_refuse (s : TS) (p : Pk) : RSame s (s.refuse p) ∧ (s.refuse p).state = s.state := by
  unfold TS.refuse
  split
  · exact ⟨⟨rfl, rfl, rfl, rfl, rfl, rfl, rfl⟩, rfl⟩
  · exact ⟨rs_refl s, rfl⟩
theorem rs_again (s : TS) : RSame s s.again ∧ s.again.state = s.state := by
  unfold TS.again
  split
  · exact ⟨⟨rfl, rfl, rfl, rfl, rfl, rfl, rfl⟩, rfl⟩
  · obtain ⟨h1, h2⟩ := rs_push s.back
    exact ⟨(show RSame s s.back from ⟨rfl, rfl, rfl, rfl, rfl, rfl, rfl⟩).trans h1, h2⟩
theorem RR.keep (h : RR iss Wr sh s rd) (e : RSame s t ∧ t.state = s.state) : RR iss Wr sh t rd := h.same e.1 (.inl e.2.symm)
theorem RR.abort (h : RR iss Wr sh s rd) : RR iss Wr sh s.abort rd := by
  unfold TS.abort
  split
  · exact h
  · split
    · exact h.reset
    · exact RR.reset (h.keep (t := s.emit 10 (s.num s.top) []) ⟨⟨rfl, rfl, rfl, rfl, rfl, rfl, rfl⟩, rfl⟩)
theorem RR.late (h : RR iss Wr sh s rd) : RR iss Wr sh s.late rd := by
  have h1 : RR iss Wr sh ({ s with timer := 0, tries := s.tries + 1 } : TS) rd := h.keep ⟨⟨rfl, rfl, rfl, rfl, rfl, rfl, rfl⟩, rfl⟩
  unfold TS.late
  dsimp only
  split
  · exact h1.abort
  · split
    · exact h1.keep (rs_again _)
    · exact h1.keep (rs_syn _)
theorem RR.tick (h : RR iss Wr sh s rd) : RR iss Wr sh s.tick rd := by
  unfold TS.tick
  split
  · exact h
  · dsimp only
    obtain ⟨t, htt⟩ : ∃ t, (if s.nxt = s.una ∧ s.out.length = 0 then 0 else s.timer + 1) = t := ⟨_, rfl⟩
    rw [htt]
    have h1 : RR iss Wr sh ({ s with idle := s.idle + 1, timer := t } : TS) rd := h.keep ⟨⟨rfl, rfl, rfl, rfl, rfl, rfl, rfl⟩, rfl⟩
    split
    · exact h1.abort
    · split
      · exact h1.late
      · split
        · exact h1.keep ⟨⟨rfl, rfl, rfl, rfl, rfl, rfl, rfl⟩, rfl⟩
        · exact h1
theorem RR.write (h : RR iss Wr sh s rd) (b : List UInt8) : RR iss Wr sh (s.write b).2 rd := by
  unfold TS.write
  split
  · exact h
  · exact RR.keep (s := { s with out := s.out ++ b.take (min b.length (1024 - s.out.length)) }) (h.keep ⟨⟨rfl, rfl, rfl, rfl, rfl, rfl, rfl⟩, rfl⟩) (rs_push _)
theorem RR.close (h : RR iss Wr sh s rd) : RR iss Wr sh s.close rd := by
  unfold TS.close
  split
  · exact RR.keep (s := { s with shut := true }) (h.keep ⟨⟨rfl, rfl, rfl, rfl, rfl, rfl, rfl⟩, rfl⟩) (rs_push _)
  · exact h
theorem RR.outp (h : RR iss Wr sh s rd) : RR iss Wr sh s.outp.2 rd := by
  unfold TS.outp
  split
  · exact h
  · exact h.keep ⟨⟨rfl, rfl, rfl, rfl, rfl, rfl, rfl⟩, rfl⟩
theorem RX.read (h : RX Wr sh rd s) (k : Nat) (hk : k ≤ s.inn.length) {t : TS} (e1 : t.inn = s.inn.drop k) (e2 : t.rcv = s.rcv) (e3 : t.early = s.early) (e4 : t.told = s.told) (e5 : t.fend = s.fend) (e6 : t.fin = s.fin) : RX Wr sh (rd ++ s.inn.take k) t := by
  have hl : (rd ++ s.inn.take k).length + t.inn.length = rd.length + s.inn.length := by
    rw [e1, List.length_append, List.length_take, List.length_drop]
    omega
  refine ⟨?_, ?_, ?_, ?_, ?_, ?_⟩
  · rw [hl]
    exact h.len
  · rw [hl, e1, List.append_assoc, List.take_append_drop]
    exact h.eq
  · rw [e2, e6, h.rcv]
    omega
  · rw [hl, e3, e6]
    exact h.early
  · rw [e4, e5]
    exact h.told
  · rw [hl, e4, e6]
    exact h.fin
theorem RX.pre (h : RX Wr sh rd t) : rd = Wr.take rd.length := by
  have h1 := congrArg (List.take rd.length) h.eq
  rw [List.take_append_of_le_length (Nat.le_refl _), List.take_length, List.take_take] at h1
  rw [show min rd.length (rd.length + t.inn.length) = rd.length by omega] at h1
  exact h1
theorem RR.read (h : RR iss Wr sh s rd) (hst : s.state ≤ 5) (n : Int) : RR iss Wr sh (s.read n).2 (rd ++ (s.read n).1) := by
  unfold TS.read
  split
  · rw [List.append_nil]
    exact h
  · have hk := readN_le s n
    obtain ⟨k, hkk⟩ : ∃ k, s.readN n = k := ⟨_, rfl⟩
    rw [hkk] at hk ⊢
    have h1 : RR iss Wr sh ({ s with inn := s.inn.drop k, got := s.got + k } : TS) (rd ++ s.inn.take k) := by
      by_cases e : s.state = 2 ∨ s.state = 3 ∨ s.state = 4
      · have hx := (h.rx e).read k hk (t := { s with inn := s.inn.drop k, got := s.got + k }) rfl rfl rfl rfl rfl rfl
        exact ⟨hx.pre, fun e2 => (by have e2 : s.state ≤ 1 := e2; omega), fun e2 => (by have e2 : s.state = 5 := e2; omega), h.irs, fun _ => hx⟩
      · have hin : s.inn = [] := by
          by_cases e2 : s.state = 5
          · exact h.five e2
          · exact (h.no (by omega)).2.1
        have e3 : s.inn.take k = [] := by rw [hin, List.take_nil]
        have e4 : s.inn.drop k = s.inn := by rw [hin, List.drop_nil]
        rw [e3, e4, List.append_nil]
        exact h.keep ⟨⟨rfl, rfl, rfl, rfl, rfl, rfl, rfl⟩, rfl⟩
    dsimp only
    split
    · exact h1.keep ⟨⟨rfl, rfl, rfl, rfl, rfl, rfl, rfl⟩, rfl⟩
    · exact h1
/-- A packet's bytes are kept. -/
theorem RX.keep (h : RX Wr sh rd s) (ok : s.Ok) (hf : s.fin = false) (hi : s.irs = iss) {p : Pk} (hp : SP iss Wr sh p) (hq : p.seq < 4294967296) (hl : p.data.length ≤ 128) (hW : Wr.length ≤ 1000000000) : RX Wr sh rd (s.keep p) := by
  have hw : s.window ≤ 1024 := window_le s
  have hr : s.rnum s.rcv < 4294967296 := m32_lt _
  have hci := clip_in p.seq p.data.length (s.rnum s.rcv) s.window hq hr (by omega) hw
  have hff : s.fin.toNat = 0 := by rw [hf]; rfl
  have hrc := h.rcv
  have hlen := h.len
  have hrn : s.rnum s.rcv = m32 (iss + 1 + (rd.length + s.inn.length)) := by
    unfold TS.rnum
    rw [hi, hrc, hff]
    congr 1
    omega
  obtain ⟨N, hN⟩ : ∃ N, rd.length + s.inn.length = N := ⟨_, rfl⟩
  have hearly := h.early hf
  rw [hN] at hrn hlen hearly
  have hwl : s.inn.length ≤ 1024 := ok.inn
  have hws : s.window = 1024 - s.inn.length := rfl
  have h1 : ∀ k x, (setL s.early (sd (m32 (p.seq + (clip p.seq p.data.length (s.rnum s.rcv) s.window).1)) (s.rnum s.rcv)).toNat ((p.data.drop (clip p.seq p.data.length (s.rnum s.rcv) s.window).1).take (clip p.seq p.data.length (s.rnum s.rcv) s.window).2))[k]? = some (some x) → Wr[N + k]? = some x := by
    intro k x hk
    obtain ⟨c, hc⟩ : ∃ c, clip p.seq p.data.length (s.rnum s.rcv) s.window = c := ⟨_, rfl⟩
    rw [hc] at hci hk
    rcases hci with hz | ⟨i1, i2, i3⟩
    · rw [hz, List.take_zero] at hk
      exact hearly k x hk
    · by_cases hz : c.2 = 0
      · rw [hz, List.take_zero] at hk
        exact hearly k x hk
      · have hne : p.data ≠ [] := fun e => by
          rw [e] at i1
          have : c.1 + c.2 ≤ 0 := i1
          omega
        obtain ⟨a, a1, a2, a3⟩ := hp.dat hne
        have hsd : sd (m32 (p.seq + c.1)) (s.rnum s.rcv) = ((a + c.1 : Nat) : Int) - (N : Int) := by
          have e1 : m32 (p.seq + c.1) = m32 (iss + 1 + (a + c.1)) := by
            rw [a1]
            unfold m32
            omega
          rw [e1, hrn]
          exact sd_num (iss + 1) (a + c.1) N (by omega) (by omega)
        rw [hsd] at i2 i3 hk
        obtain ⟨u, hu⟩ : ∃ u, (((a + c.1 : Nat) : Int) - (N : Int)).toNat = u := ⟨_, rfl⟩
        rw [hu] at hk
        have hll : ((p.data.drop c.1).take c.2).length = c.2 := by
          rw [List.length_take, List.length_drop]
          omega
        rw [setL_get _ _ _ _ (by rw [hll, ok.early]; omega), hll] at hk
        split at hk
        · rename_i hb
          have hk := Option.some.inj hk
          rw [List.getElem?_take] at hk
          split at hk
          · rw [List.getElem?_drop] at hk
            have := a3 _ _ hk
            rw [show a + (c.1 + (k - u)) = N + k by omega] at this
            exact this
          · cases hk
        · exact hearly k x hk
  have h2 : RX Wr sh rd ({ s with early := setL s.early (sd (m32 (p.seq + (clip p.seq p.data.length (s.rnum s.rcv) s.window).1)) (s.rnum s.rcv)).toNat ((p.data.drop (clip p.seq p.data.length (s.rnum s.rcv) s.window).1).take (clip p.seq p.data.length (s.rnum s.rcv) s.window).2) } : TS) :=
    ⟨h.len, h.eq, h.rcv, fun _ => by show ∀ k x, _ → Wr[rd.length + s.inn.length + k]? = some x; rw [hN]; exact h1, h.told, h.fin⟩
  unfold TS.keep
  dsimp only
  split
  · rename_i hc
    obtain ⟨c1, c2, c3, c4⟩ := hc
    obtain ⟨f1, f2, f3⟩ := hp.fin c1
    refine ⟨h2.len, h2.eq, h2.rcv, h2.early, fun _ => ⟨f1, ?_⟩, fun e => ?_⟩
    · show s.rcv + (sd (m32 (p.seq + p.data.length)) (s.rnum s.rcv)).toNat = 1 + Wr.length
      have e1 : m32 (p.seq + p.data.length) = m32 (iss + 1 + Wr.length) := by
        rw [f2, f3]
        unfold m32
        show (m32 (iss + 1 + Wr.length) + 0) % 4294967296 = _
        unfold m32
        omega
      rw [e1, hrn, sd_num (iss + 1) Wr.length N (by omega) (by omega)]
      omega
    · have e : s.fin = true := e
      rw [hf] at e
      cases e
  · exact h2
theorem RX.fill (h : RX Wr sh rd s) (ok : s.Ok) (hf : s.fin = false) : RX Wr sh rd s.fill := by
  have hl := lead_le s s.early 0
  have ha : ∀ k, k < s.lead 0 s.early → ∃ x, s.early[k]? = some (some x) ∧ Wr[rd.length + s.inn.length + k]? = some x := fun k hk => by
    have := lead_all (s := s) s.early 0 k (by omega)
    cases e : s.early[k]? with
    | none => rw [e] at this; cases this
    | some y =>
      cases y with
      | none => rw [e] at this; cases this
      | some x => exact ⟨x, rfl, h.early hf k x e⟩
  have hff : s.fin.toNat = 0 := by rw [hf]; rfl
  have hrc := h.rcv
  have hlen := h.len
  have heq := h.eq
  have hearly := h.early hf
  obtain ⟨n, hn⟩ : ∃ n, s.lead 0 s.early = n := ⟨_, rfl⟩
  rw [hn] at hl ha
  obtain ⟨N, hN⟩ : ∃ N, rd.length + s.inn.length = N := ⟨_, rfl⟩
  rw [hN] at hlen heq hearly ha
  have hm := take_some s.early Wr N n (by omega) ha
  have hNn : N + n ≤ Wr.length := by
    by_cases h0 : n = 0
    · omega
    · obtain ⟨x, _, h2⟩ := ha (n - 1) (by omega)
      have := (List.getElem?_eq_some_iff.1 h2).1
      omega
  have hil : (s.inn ++ (s.early.take n).map (·.getD 0)).length = s.inn.length + n := by
    rw [List.length_append, List.length_map, List.length_take]
    omega
  have h1 : RX Wr sh rd ({ s with inn := s.inn ++ (s.early.take n).map (·.getD 0), early := s.early.drop n ++ List.replicate n none, rcv := s.rcv + n } : TS) := by
    refine ⟨?_, ?_, ?_, fun _ k x hk => ?_, h.told, fun e => ?_⟩
    · show rd.length + (s.inn ++ (s.early.take n).map (·.getD 0)).length ≤ Wr.length
      rw [hil]
      omega
    · show rd ++ (s.inn ++ (s.early.take n).map (·.getD 0)) = Wr.take (rd.length + (s.inn ++ (s.early.take n).map (·.getD 0)).length)
      rw [hil, hm, ← List.append_assoc, heq, show rd.length + (s.inn.length + n) = N + n by omega, List.take_add]
    · show s.rcv + n = 1 + rd.length + (s.inn ++ (s.early.take n).map (·.getD 0)).length + s.fin.toNat
      rw [hil]
      omega
    · show Wr[rd.length + (s.inn ++ (s.early.take n).map (·.getD 0)).length + k]? = some x
      rw [hil, show rd.length + (s.inn.length + n) + k = N + (n + k) by omega]
      have hk : (s.early.drop n ++ List.replicate n none)[k]? = some (some x) := hk
      rw [List.getElem?_append] at hk
      split at hk
      · rw [List.getElem?_drop] at hk
        exact hearly _ x hk
      · rw [List.getElem?_replicate] at hk
        split at hk <;> cases hk
    · have e : s.fin = true := e
      rw [hf] at e
      cases e
  unfold TS.fill
  dsimp only
  rw [hn]
  split
  · rename_i hc
    obtain ⟨c1, c2⟩ := hc
    have ht := (h.told c1).2
    refine ⟨h1.len, h1.eq, ?_, fun e => (by cases e), h1.told, fun _ => ⟨c1, ?_⟩⟩
    · show s.rcv + n + 1 = 1 + rd.length + (s.inn ++ (s.early.take n).map (·.getD 0)).length + (true : Bool).toNat
      rw [hil]
      have h6 : (true : Bool).toNat = 1 := rfl
      omega
    · show rd.length + (s.inn ++ (s.early.take n).map (·.getD 0)).length = Wr.length
      rw [hil]
      omega
  · exact h1
theorem RX.talk2 (h : RX Wr sh rd s) (ok : s.Ok) (hi : s.irs = iss) {p : Pk} (hp : SP iss Wr sh p) (hq : p.seq < 4294967296) (hl : p.data.length ≤ 128) (hW : Wr.length ≤ 1000000000) : RX Wr sh rd (s.talk2 p) := by
  unfold TS.talk2
  split
  · rename_i hf
    have h1 := h.keep ok hf hi hp hq hl hW
    obtain ⟨a, b, c, e⟩ := keep_shape s p
    exact h1.fill (ok.keep hq (by omega) hf) (by rw [e]; exact hf)
  · exact h
theorem RR.talk (h : RR iss Wr sh s rd) (ok : s.Ok) (hqu : s.Qu) (hs : s.state = 2 ∨ s.state = 3 ∨ s.state = 4) {p : Pk} (hp : SP iss Wr sh p) (hk : okP p = true) (hin : PkIn p) (hW : Wr.length ≤ 1000000000) : RR iss Wr sh (s.talk p) rd := by
  rw [talk_eq]
  have k1 := ok.talk1 hqu
  obtain ⟨r1, r2, r3, r4, r5⟩ := okP_rows hk
  have h1 : RR iss Wr sh s.talk1 rd ∧ (s.talk1.state = 3 ∨ s.talk1.state = 4) := by
    unfold TS.talk1
    split
    · rename_i h2
      exact ⟨h.same (t := s.opened) ⟨rfl, rfl, rfl, rfl, rfl, rfl, rfl⟩ (.inr ⟨.inl h2, .inl rfl⟩), .inl rfl⟩
    · exact ⟨h, by omega⟩
  obtain ⟨h1, hs1⟩ := h1
  have ha : RR iss Wr sh s.talk1.ack rd := h1.keep ⟨⟨rfl, rfl, rfl, rfl, rfl, rfl, rfl⟩, rfl⟩
  split
  · exact ha
  · split
    · exact ha
    · have kc := k1.credit hs1 (p := p) ⟨r3, r4⟩
      obtain ⟨a1, a2, a3, a4, a5, a6, a7, a8, ec⟩ := credit_shape s.talk1 p
      have h2 : RR iss Wr sh (s.talk1.credit p).2 rd ∧ (s.talk1.credit p).2.state = s.talk1.state := by
        rw [ec]
        exact ⟨h1.keep ⟨⟨rfl, rfl, rfl, rfl, rfl, rfl, rfl⟩, rfl⟩, rfl⟩
      obtain ⟨h2, e2⟩ := h2
      have hx2 := (h2.rx (by omega)).talk2 kc (h2.irs (by omega)) hp hin.seq r5 hW
      obtain ⟨b1, b2, b3, b4, b5, b6, eb⟩ := talk2_shape (s.talk1.credit p).2 p
      have e3 : ((s.talk1.credit p).2.talk2 p).state = s.talk1.state := by rw [eb]; exact e2
      have h3 : RR iss Wr sh ((s.talk1.credit p).2.talk2 p) rd := ⟨h2.pre, fun e => by omega, fun e => by omega, fun _ => (by
        rw [eb]
        exact h2.irs (by omega)), fun _ => hx2⟩
      have h4 : RR iss Wr sh (((s.talk1.credit p).2.talk2 p).talk3 p) rd ∧ (((s.talk1.credit p).2.talk2 p).talk3 p).state = s.talk1.state := by
        obtain ⟨ps, e, _⟩ := talk3_shape ((s.talk1.credit p).2.talk2 p) p
        rw [e]
        exact ⟨h3.keep ⟨⟨rfl, rfl, rfl, rfl, rfl, rfl, rfl⟩, rfl⟩, e3⟩
      obtain ⟨h4, e4⟩ := h4
      have h5 := h4.keep (rs_push _)
      have e5 := (rs_push (((s.talk1.credit p).2.talk2 p).talk3 p)).2
      unfold TS.talk5
      split
      · exact h5.same (t := { (((s.talk1.credit p).2.talk2 p).talk3 p).push with state := 4 }) ⟨rfl, rfl, rfl, rfl, rfl, rfl, rfl⟩ (by
          show StOn _ 4
          unfold StOn
          omega)
      · exact h5
theorem RR.takes (h : RR iss Wr sh s rd) (ok : s.Ok) (hqu : s.Qu) (hs : s.state = 2 ∨ s.state = 3 ∨ s.state = 4) {p : Pk} (hp : SP iss Wr sh p) (hk : okP p = true) (hin : PkIn p) (hW : Wr.length ≤ 1000000000) : RR iss Wr sh (s.takes p) rd := by
  unfold TS.takes
  split
  · split
    · exact h.reset
    · exact h
  · split
    · exact h.keep (rs_syn _)
    · split
      · exact h.keep ⟨⟨rfl, rfl, rfl, rfl, rfl, rfl, rfl⟩, rfl⟩
      · split
        · exact h
        · split
          · exact h.keep (rs_refuse _ _)
          · exact h.talk ok hqu hs hp hk hin hW
theorem RR.answered (h : RR iss Wr sh s rd) (h1 : s.state = 1) {p : Pk} (hp : SP iss Wr sh p) : RR iss Wr sh (s.answered p) rd := by
  unfold TS.answered
  dsimp only
  split
  · exact h.keep (rs_refuse _ _)
  · split
    · split
      · exact h.reset
      · exact h
    · split
      · rename_i hc
        obtain ⟨n1, n2, n3, n4, n5⟩ := h.no (by omega)
        have h2 : RR iss Wr sh ({ s with irs := p.seq, rcv := 1, wnd := p.wn } : TS).opened rd := by
          refine ⟨h.pre, fun e => absurd (show (3 : Nat) ≤ 1 from e) (by decide), fun e => absurd (show (3 : Nat) = 5 from e) (by decide), fun _ => hp.syn hc.1, fun _ => ⟨?_, ?_, ?_, fun _ k x hk => absurd hk (n5 k x), fun e => ?_, fun e => ?_⟩⟩
          · show rd.length + s.inn.length ≤ Wr.length
            rw [n1, n2]
            exact Nat.zero_le _
          · show rd ++ s.inn = Wr.take (rd.length + s.inn.length)
            rw [n1, n2]
            rfl
          · show 1 = 1 + rd.length + s.inn.length + s.fin.toNat
            rw [n1, n2, n4]
            rfl
          · have e : s.told = true := e
            rw [n3] at e
            cases e
          · have e : s.fin = true := e
            rw [n4] at e
            cases e
        exact RR.keep (RR.keep (t := ({ s with irs := p.seq, rcv := 1, wnd := p.wn } : TS).opened.ack) h2 ⟨⟨rfl, rfl, rfl, rfl, rfl, rfl, rfl⟩, rfl⟩) (rs_push _)
      · exact h
theorem RR.take (h : RR iss Wr sh s rd) (ok : s.Ok) (hqu : s.Qu) {p : Pk} (hp : SP iss Wr sh p) (hin : PkIn p) (hW : Wr.length ≤ 1000000000) : RR iss Wr sh (s.take p) rd := by
  unfold TS.take
  split
  · exact h
  · rename_i hc
    have hok : okP p = true := by
      cases e : okP p with
      | true => rfl
      | false => exact absurd (.inr e) hc
    have h1 : RR iss Wr sh ({ s with idle := 0 } : TS) rd := h.keep ⟨⟨rfl, rfl, rfl, rfl, rfl, rfl, rfl⟩, rfl⟩
    have hst := ok.st
    have h0 : s.state ≠ 0 := fun e => hc (.inl e)
    dsimp only
    split
    · exact h1.keep (rs_refuse _ _)
    · split
      · rename_i h5
        exact h1.answered h5 hp
      · rename_i h5 h6
        have h5 : s.state ≠ 5 := h5
        have h6 : s.state ≠ 1 := h6
        exact h1.takes ok.idle0 hqu (show s.state = 2 ∨ s.state = 3 ∨ s.state = 4 by omega) hp hok hin hW
theorem rr_zero (iss : Nat) (Wr : List UInt8) (sh : Bool) : RR iss Wr sh zero [] := ⟨rfl, fun _ => ⟨rfl, rfl, rfl, rfl, fun k x e => by
    have e : (List.replicate 1024 (none : Option UInt8))[k]? = some (some x) := e
    rw [List.getElem?_replicate] at e
    split at e <;> cases e⟩, fun e => absurd (show (0 : Nat) = 5 from e) (by decide), fun e => absurd (show (0 : Nat) = 2 ∨ (0 : Nat) = 3 ∨ (0 : Nat) = 4 from e) (by decide), fun e => absurd (show (0 : Nat) = 2 ∨ (0 : Nat) = 3 ∨ (0 : Nat) = 4 from e) (by decide)⟩
theorem rr_accept {p : Pk} {i : Nat} (hp : SP iss Wr sh p) (h : TS.accept p i = some s) : RR iss Wr sh s [] := by
  unfold TS.accept at h
  split at h
  · cases h
  · rename_i hc
    have hfl : p.fl = 1 := by
      by_cases e : p.fl = 1
      · exact e
      · exact absurd (.inr e) hc
    have hsy : p.seq = iss := hp.syn (by rw [hasFl hfl]; decide +kernel)
    cases h
    refine RR.keep ?_ (rs_syn _)
    refine ⟨rfl, fun e => absurd (show (2 : Nat) ≤ 1 from e) (by decide), fun e => absurd (show (2 : Nat) = 5 from e) (by decide), fun _ => hsy, fun _ => ⟨Nat.zero_le _, rfl, rfl, fun _ k x e => ?_, fun e => ?_, fun e => ?_⟩⟩
    · have e : (List.replicate 1024 (none : Option UInt8))[k]? = some (some x) := e
      rw [List.getElem?_replicate] at e
      split at e <;> cases e
    · have e : false = true := e
      cases e
    · have e : false = true := e
      cases e
end TS
end Go.Proofs.Ytjhnnnklfhbebaa
