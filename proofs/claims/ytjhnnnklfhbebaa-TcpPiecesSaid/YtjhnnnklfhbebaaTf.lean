/- tcp: what an endpoint keeps when a packet comes (plain). tcp: talk: the walk. tcp: answered: the walk. tcp: take, Take: the walks. tcp: Take: the walk. -/
import Derived.Test.YtjhnnnklfhbebaaTe
import Derived.Test.YtjhnnnklfhbebaaTc
namespace Go.Proofs.Ytjhnnnklfhbebaa
open Go.RowKit
set_option linter.unusedVariables false
set_option linter.unusedSimpArgs false
theorem okP_rows {p : Pk} (h : okP p = true) : 0 ≤ p.fl ∧ p.fl ≤ 15 ∧ 0 ≤ p.wn ∧ p.wn ≤ 65535 ∧ p.data.length ≤ 128 := by
  unfold okP okN at h
  simp only [Bool.and_eq_true, decide_eq_true_eq] at h
  omega
namespace TS
variable {s : TS}
/-- What there is besides ahead of an answer. -/
def Qu (s : TS) : Prop := s.state = 1 ∨ s.state = 2 → s.una = 0 ∧ s.nxt = 1 ∧ s.top = 1 ∧ s.told = false
theorem push_shape (s : TS) : ∃ n t ps, s.push = { s with nxt := n, top := t, pack := s.pack ++ ps } := by
  have hl : ∀ (f : Nat) (s : TS), ∃ n t ps, pushL f s = { s with nxt := n, top := t, pack := s.pack ++ ps } := by
    intro f
    induction f with
    | zero => exact fun s => ⟨s.nxt, s.top, [], by rw [List.append_nil]; rfl⟩
    | succ f ih =>
      intro s
      show ∃ n t ps, (if s.may ≤ 0 then s else pushL f (s.send s.may.toNat)) = _
      split
      · exact ⟨s.nxt, s.top, [], by rw [List.append_nil]⟩
      · obtain ⟨n, t, ps, e⟩ := ih (s.send s.may.toNat)
        rw [e]
        exact ⟨n, t, [_] ++ ps, by rw [← List.append_assoc]; rfl⟩
  unfold push
  split
  · obtain ⟨n, t, ps, e⟩ := hl (s.out.length + 1) s
    rw [e]
    unfold pushF
    split
    · exact ⟨_, _, ps ++ [_], by rw [← List.append_assoc]; rfl⟩
    · exact ⟨n, t, ps, rfl⟩
  · exact ⟨s.nxt, s.top, [], by rw [List.append_nil]⟩
theorem Ok.opened (h : s.Ok) (hq : s.Qu) (h2 : s.state = 1 ∨ s.state = 2) : s.opened.Ok := ⟨h.inn, h.out, h.irs, h.iss, h.w0, h.w1, by show (3 : Nat) ≤ 5; omega, fun _ => by
    obtain ⟨e1, e2, e3, e4⟩ := hq h2
    refine ⟨Nat.le_refl 1, ?_, ?_⟩
    · show (1 : Nat) ≤ s.top
      omega
    · show s.top ≤ 1 + s.out.length + 1
      omega, h.early, h.win, h.fe, fun _ => ⟨Nat.zero_le _, Nat.zero_le _, by
    have : s.dead = false := decide_eq_false (by omega)
    exact (h.tim this).2.2⟩, fun _ => Nat.le_refl 1⟩
theorem Ok.idle0 (h : s.Ok) : ({ s with idle := 0 } : TS).Ok := ⟨h.inn, h.out, h.irs, h.iss, h.w0, h.w1, h.st, h.sn, h.early, h.win, h.fe, fun e => ⟨(h.tim e).1, (h.tim e).2.1, by show (0 : Nat) ≤ 127; omega⟩, h.u1⟩
/-- Where the acknowledgement stands. -/
theorem credit_place (h : s.Ok) (h5 : s.state ≠ 5) {p : Pk} (h1 : ¬ 0 < sd p.ack (s.num s.top)) (h2 : ¬ sd p.ack (s.num s.una) < 0) : s.una + (sd p.ack (s.num s.una)).toNat ≤ s.top := by
  have := h.sn h5
  have ho := h.out
  unfold sd num m32 at *
  omega
theorem Ok.credit (h : s.Ok) (h3 : s.state = 3 ∨ s.state = 4) {p : Pk} (hp : 0 ≤ p.wn ∧ p.wn ≤ 65535) : (s.credit p).2.Ok := by
  have h5 : s.state ≠ 5 := by omega
  unfold TS.credit
  split
  · exact h
  · rename_i h1
    split
    · exact h
    · rename_i h2
      have hc := credit_place h h5 h1 h2
      have hs := h.sn h5
      split
      · exact ⟨h.inn, h.out, h.irs, h.iss, hp.1, hp.2, h.st, h.sn, h.early, h.win, h.fe, fun e => ⟨(h.tim e).1, by show (0 : Nat) ≤ 30; omega, (h.tim e).2.2⟩, h.u1⟩
      · rename_i h4
        dsimp only
        obtain ⟨n, hn⟩ : ∃ n, (sd p.ack (s.num s.una)).toNat = n := ⟨_, rfl⟩
        have hn0 : 0 < n := by omega
        rw [hn] at hc ⊢
        refine ⟨h.inn, ?_, h.irs, h.iss, hp.1, hp.2, h.st, fun _ => ?_, h.early, h.win, h.fe, fun e => ⟨by show (0 : Nat) ≤ 3; omega, by show (0 : Nat) ≤ 30; omega, (h.tim e).2.2⟩, fun e => ?_⟩
        · show (s.out.drop (min n s.out.length)).length ≤ 1024
          rw [List.length_drop]
          have := h.out
          omega
        · refine ⟨?_, ?_, ?_⟩
          · show s.una + n ≤ max s.nxt (s.una + n)
            omega
          · show max s.nxt (s.una + n) ≤ s.top
            omega
          · show s.top ≤ s.una + n + (s.out.drop (min n s.out.length)).length + 1
            rw [List.length_drop]
            omega
        · show 1 ≤ s.una + n
          omega
theorem setL_get : ∀ (l : List UInt8) (e : List (Option UInt8)) (a i : Nat), a + l.length ≤ e.length → (setL e a l)[i]? = if a ≤ i ∧ i < a + l.length then some l[i - a]? else e[i]?
  | [], e, a, i, _ => by
    rw [if_neg (by rw [List.length_nil]; omega)]
    rfl
  | x :: r, e, a, i, h => by
    have hl : (x :: r).length = r.length + 1 := rfl
    rw [setL, setL_get r (e.set a (some x)) (a + 1) i (by rw [List.length_set]; omega)]
    by_cases h1 : a + 1 ≤ i ∧ i < a + 1 + r.length
    · rw [if_pos h1, if_pos (by omega)]
      obtain ⟨j, rfl⟩ : ∃ j, i = a + 1 + j := ⟨i - (a + 1), by omega⟩
      rw [show a + 1 + j - (a + 1) = j by omega, show a + 1 + j - a = j + 1 by omega, List.getElem?_cons_succ]
    · rw [if_neg h1]
      by_cases h2 : i = a
      · subst h2
        rw [if_pos (by omega), List.getElem?_set_self (by omega), Nat.sub_self]
        rfl
      · rw [if_neg (by omega), List.getElem?_set_ne (by omega)]
/-- What of a packet's bytes is within what may come. -/
theorem clip_in (q n r wn : Nat) (hq : q < 4294967296) (hr : r < 4294967296) (hn : n ≤ 2000) (hw : wn ≤ 1024) : (clip q n r wn).2 = 0 ∨
    ((clip q n r wn).1 + (clip q n r wn).2 ≤ n ∧ 0 ≤ sd (m32 (q + (clip q n r wn).1)) r ∧ sd (m32 (q + (clip q n r wn).1)) r + (clip q n r wn).2 ≤ wn) := by
  unfold clip
  split
  · exact .inl rfl
  · rename_i h1
    split
    · exact .inl rfl
    · rename_i h2
      right
      dsimp only
      have hb1 := sd_bd q r
      have hb2 := sd_bd r q
      have he : sd r q = - sd q r := by unfold sd at *; omega
      have hm : sd (m32 (q + (max 0 (sd r q)).toNat)) r = max 0 (sd q r) := by
        rw [he]
        rcases Int.lt_or_le (sd q r) 0 with hlt | hge
        · have e1 : (max 0 (- sd q r)).toNat = (- sd q r).toNat := by omega
          rw [e1]
          have e2 : max 0 (sd q r) = 0 := by omega
          rw [e2]
          unfold sd m32 at *
          omega
        · have e1 : (max 0 (- sd q r)).toNat = 0 := by omega
          rw [e1]
          have e2 : max 0 (sd q r) = sd q r := by omega
          rw [e2]
          unfold sd m32 at *
          omega
      refine ⟨by omega, by rw [hm]; omega, by rw [hm]; omega⟩
theorem window_le (s : TS) : s.window ≤ 1024 := by unfold window; omega
theorem Ok.keep (h : s.Ok) {p : Pk} (hq : p.seq < 4294967296) (hl : p.data.length ≤ 2000) (hf : s.fin = false) : (s.keep p).Ok := by
  have hw : s.window ≤ 1024 := window_le s
  have hr : s.rnum s.rcv < 4294967296 := m32_lt _
  have hci := clip_in p.seq p.data.length (s.rnum s.rcv) s.window hq hr hl hw
  obtain ⟨c, hc⟩ : ∃ c, clip p.seq p.data.length (s.rnum s.rcv) s.window = c := ⟨_, rfl⟩
  rw [hc] at hci
  have he : s.keep p = if hasF p 4 = true ∧ s.told = false ∧ 0 ≤ sd (m32 (p.seq + p.data.length)) (s.rnum s.rcv) ∧ sd (m32 (p.seq + p.data.length)) (s.rnum s.rcv) ≤ s.window then { s with early := setL s.early (sd (m32 (p.seq + c.1)) (s.rnum s.rcv)).toNat ((p.data.drop c.1).take c.2), told := true, fend := s.rcv + (sd (m32 (p.seq + p.data.length)) (s.rnum s.rcv)).toNat } else { s with early := setL s.early (sd (m32 (p.seq + c.1)) (s.rnum s.rcv)).toNat ((p.data.drop c.1).take c.2) } := by
    rw [← hc]
    rfl
  rw [he]
  have hlen : (setL s.early (sd (m32 (p.seq + c.1)) (s.rnum s.rcv)).toNat ((p.data.drop c.1).take c.2)).length = 1024 := by rw [setL_len, h.early]
  have hwin : ∀ i, s.window ≤ i → (setL s.early (sd (m32 (p.seq + c.1)) (s.rnum s.rcv)).toNat ((p.data.drop c.1).take c.2)).getD i none = none := fun i hi => by
    rcases hci with hz | ⟨h1, h2, h3⟩
    · rw [hz, List.take_zero]
      exact h.win i hi
    · have hdl : ((p.data.drop c.1).take c.2).length = c.2 := by rw [List.length_take, List.length_drop]; omega
      rw [List.getD_eq_getElem?_getD, setL_get _ _ _ _ (by rw [hdl, h.early]; omega), if_neg (by rw [hdl]; omega), ← List.getD_eq_getElem?_getD]
      exact h.win i hi
  split
  · rename_i hh
    exact ⟨h.inn, h.out, h.irs, h.iss, h.w0, h.w1, h.st, h.sn, hlen, hwin, fun _ _ => ⟨Nat.le_add_right _ _, by
      show s.rcv + _ ≤ s.rcv + s.window
      omega⟩, h.tim, h.u1⟩
  · exact ⟨h.inn, h.out, h.irs, h.iss, h.w0, h.w1, h.st, h.sn, hlen, hwin, h.fe, h.tim, h.u1⟩
theorem lead_le (s : TS) : ∀ (l : List (Option UInt8)) (k : Nat), k ≤ s.lead k l ∧ s.lead k l ≤ k + l.length
  | [], k => ⟨Nat.le_refl _, Nat.le_refl _⟩
  | none :: r, k => ⟨Nat.le_refl _, Nat.le_add_right _ _⟩
  | some x :: r, k => by
    show k ≤ (if s.told = true ∧ s.rcv + k = s.fend then k else s.lead (k + 1) r) ∧ (if s.told = true ∧ s.rcv + k = s.fend then k else s.lead (k + 1) r) ≤ k + (r.length + 1)
    have := lead_le s r (k + 1)
    split <;> omega
theorem lead_fend (s : TS) (ht : s.told = true) : ∀ (l : List (Option UInt8)) (k : Nat), s.rcv + k ≤ s.fend → s.rcv + s.lead k l ≤ s.fend
  | [], k, h => h
  | none :: r, k, h => h
  | some x :: r, k, h => by
    show s.rcv + (if s.told = true ∧ s.rcv + k = s.fend then k else s.lead (k + 1) r) ≤ s.fend
    split
    · exact h
    · rename_i hc
      exact lead_fend s ht r (k + 1) (by have : s.rcv + k ≠ s.fend := fun e => hc ⟨ht, e⟩; omega)
theorem lead_win (h : s.Ok) : s.lead 0 s.early ≤ s.window := by
  rcases Nat.lt_or_ge s.window (s.lead 0 s.early) with hlt | hge
  · have h1 := TS.lead_all (s := s) s.early 0 s.window (by omega)
    have h2 := h.win s.window (Nat.le_refl _)
    rw [List.getD_eq_getElem?_getD] at h2
    rw [h2] at h1
    cases h1
  · exact hge
theorem Ok.fill (h : s.Ok) (hf : s.fin = false) : s.fill.Ok := by
  obtain ⟨L, hL⟩ : ∃ L, s.lead 0 s.early = L := ⟨_, rfl⟩
  have hw := lead_win h
  have hle := (lead_le s s.early 0).2
  rw [hL] at hw hle
  have he := h.early
  have hwd : s.window = 1024 - s.inn.length := rfl
  have hi := h.inn
  have hil : (s.inn ++ (s.early.take L).map (·.getD 0)).length = s.inn.length + L := by rw [List.length_append, List.length_map, List.length_take]; omega
  have hel : (s.early.drop L ++ List.replicate L none).length = 1024 := by rw [List.length_append, List.length_drop, List.length_replicate]; omega
  have hF : s.fill = if s.told = true ∧ s.rcv + L = s.fend then { s with inn := s.inn ++ (s.early.take L).map (·.getD 0), early := s.early.drop L ++ List.replicate L none, rcv := s.rcv + L + 1, fin := true } else { s with inn := s.inn ++ (s.early.take L).map (·.getD 0), early := s.early.drop L ++ List.replicate L none, rcv := s.rcv + L } := by subst hL; rfl
  have hwin : ∀ i, 1024 - (s.inn ++ (s.early.take L).map (·.getD 0)).length ≤ i → (s.early.drop L ++ List.replicate L none).getD i none = none := fun i hj => by
    rw [hil] at hj
    rw [List.getD_eq_getElem?_getD]
    rcases Nat.lt_or_ge i (s.early.drop L).length with hlt | hge
    · rw [List.getElem?_append_left hlt, List.getElem?_drop, ← List.getD_eq_getElem?_getD]
      exact h.win _ (by omega)
    · rw [List.getElem?_append_right hge, List.getElem?_replicate]
      split <;> rfl
  rw [hF]
  split
  · exact ⟨by show (s.inn ++ (s.early.take L).map (·.getD 0)).length ≤ 1024; omega, h.out, h.irs, h.iss, h.w0, h.w1, h.st, h.sn, hel, hwin, fun _ e => absurd (show true = false from e) (by decide), h.tim, h.u1⟩
  · rename_i hc
    refine ⟨by show (s.inn ++ (s.early.take L).map (·.getD 0)).length ≤ 1024; omega, h.out, h.irs, h.iss, h.w0, h.w1, h.st, h.sn, hel, hwin, fun ht _ => ?_, h.tim, h.u1⟩
    have h1 := h.fe ht hf
    have h2 := lead_fend s ht s.early 0 (by omega)
    rw [hL] at h2
    refine ⟨h2, ?_⟩
    show s.fend ≤ s.rcv + L + (1024 - (s.inn ++ (s.early.take L).map (·.getD 0)).length)
    omega
/-- A packet that comes from elsewhere. -/
structure PkIn (p : Pk) : Prop where
  seq : p.seq < 4294967296
  ack : p.ack < 4294967296
theorem Ok.over (h : s.Ok) (h5 : s.state ≠ 5) : ({ s with state := 4 } : TS).Ok := ⟨h.inn, h.out, h.irs, h.iss, h.w0, h.w1, by show (4 : Nat) ≤ 5; omega, fun _ => h.sn h5, h.early, h.win, h.fe, fun e => absurd (show (decide ((4 : Nat) = 0 ∨ (4 : Nat) = 4 ∨ (4 : Nat) = 5)) = false from e) (by decide), fun e => absurd (show (4 : Nat) = 3 from e) (by decide)⟩
def talk1 (s : TS) : TS := if s.state = 2 then s.opened else s
def talk2 (s : TS) (p : Pk) : TS := if s.fin = false then (s.keep p).fill else s
def talk3 (s : TS) (p : Pk) : TS := if 0 < takesN p.fl p.data.length then s.ack else s
def talk5 (s : TS) : TS := if s.fin = true ∧ s.over = true then { s with state := 4 } else s
theorem talk_eq (s : TS) (p : Pk) : s.talk p = if s.talk1.fits p = false then s.talk1.ack else if (s.talk1.credit p).1 = false then s.talk1.ack else (((s.talk1.credit p).2.talk2 p).talk3 p).push.talk5 := rfl
theorem credit_shape (s : TS) (p : Pk) : ∃ wnd tries over out sent una timer nxt, (s.credit p).2 = { s with wnd := wnd, tries := tries, over := over, out := out, sent := sent, una := una, timer := timer, nxt := nxt } := by
  unfold credit
  split
  · exact ⟨s.wnd, s.tries, s.over, s.out, s.sent, s.una, s.timer, s.nxt, rfl⟩
  · split
    · exact ⟨s.wnd, s.tries, s.over, s.out, s.sent, s.una, s.timer, s.nxt, rfl⟩
    · split
      · exact ⟨_, _, s.over, s.out, s.sent, s.una, s.timer, s.nxt, rfl⟩
      · exact ⟨_, _, _, _, _, _, _, _, rfl⟩
theorem keep_shape (s : TS) (p : Pk) : ∃ early told fend, s.keep p = { s with early := early, told := told, fend := fend } := by
  unfold keep
  dsimp only
  split
  · exact ⟨_, _, _, rfl⟩
  · exact ⟨_, s.told, s.fend, rfl⟩
theorem fill_shape (s : TS) : ∃ inn early rcv fin, s.fill = { s with inn := inn, early := early, rcv := rcv, fin := fin } := by
  unfold fill
  dsimp only
  split
  · exact ⟨_, _, _, _, rfl⟩
  · exact ⟨_, _, _, s.fin, rfl⟩
theorem talk2_shape (s : TS) (p : Pk) : ∃ inn early told fend rcv fin, s.talk2 p = { s with inn := inn, early := early, told := told, fend := fend, rcv := rcv, fin := fin } := by
  unfold talk2
  split
  · obtain ⟨e, t, f, h1⟩ := keep_shape s p
    obtain ⟨a, b, c, d, h2⟩ := fill_shape (s.keep p)
    rw [h2, h1]
    exact ⟨_, _, _, _, _, _, rfl⟩
  · exact ⟨s.inn, s.early, s.told, s.fend, s.rcv, s.fin, rfl⟩
theorem talk3_shape (s : TS) (p : Pk) : ∃ ps, s.talk3 p = { s with pack := s.pack ++ ps } ∧ ps.length ≤ 1 := by
  unfold talk3
  split
  · exact ⟨[_], rfl, Nat.le_refl _⟩
  · exact ⟨[], by rw [List.append_nil], Nat.zero_le _⟩
theorem Ok.talk2 (h : s.Ok) {p : Pk} (hq : p.seq < 4294967296) (hl : p.data.length ≤ 2000) : (s.talk2 p).Ok := by
  unfold TS.talk2
  split
  · rename_i hf
    obtain ⟨e, t, f, h1⟩ := keep_shape s p
    exact (h.keep hq hl hf).fill (by rw [h1]; exact hf)
  · exact h
theorem Ok.talk3 (h : s.Ok) (p : Pk) : (s.talk3 p).Ok := by unfold TS.talk3; split; exact h.ack; exact h
theorem Ok.talk1 (h : s.Ok) (hq : s.Qu) : s.talk1.Ok := by
  unfold TS.talk1
  split
  · rename_i h2
    exact h.opened hq (.inr h2)
  · exact h
/-- What a packet leaves. -/
structure Took (s s' : TS) : Prop where
  ok : s'.Ok
  qu : s'.Qu
  pre : ∃ ps, s'.pack = s.pack ++ ps ∧ ps.length ≤ 1100
  sent : s'.sent + s'.out.length ≤ s.sent + s.out.length
  got : s'.got = s.got
  st : (s.state ≠ 0 → s'.state ≠ 0)
theorem Took.self (h : s.Ok) (hq : s.Qu) : Took s s := ⟨h, hq, ⟨[], (List.append_nil _).symm, Nat.zero_le _⟩, Nat.le_refl _, rfl, fun e => e⟩
theorem Took.packed (h : s.Ok) (hq : s.Qu) (ps : List Pk) (hp : ps.length ≤ 1100) : Took s { s with pack := s.pack ++ ps } := ⟨h.packed _, hq, ⟨ps, rfl, hp⟩, Nat.le_refl _, rfl, fun e => e⟩
theorem Took.refuse (h : s.Ok) (hq : s.Qu) (p : Pk) : Took s (s.refuse p) := by
  unfold TS.refuse
  split
  · exact .packed h hq [_] (by show (1 : Nat) ≤ 1100; omega)
  · exact .self h hq
theorem Took.syn (h : s.Ok) (hq : s.Qu) : Took s s.syn := by
  unfold TS.syn
  split <;> exact .packed h hq [_] (by show (1 : Nat) ≤ 1100; omega)
theorem Took.ack (h : s.Ok) (hq : s.Qu) : Took s s.ack := .packed h hq [_] (by show (1 : Nat) ≤ 1100; omega)
theorem Took.reset (h : s.Ok) : Took s s.reset := ⟨h.reset, fun e => absurd (show (5 : Nat) = 1 ∨ (5 : Nat) = 2 from e) (by decide), ⟨[], (List.append_nil _).symm, Nat.zero_le _⟩, by show s.sent + 0 ≤ _; omega, rfl, fun _ => by show (5 : Nat) ≠ 0; decide⟩
theorem credit_sent (s : TS) (p : Pk) : (s.credit p).2.sent + (s.credit p).2.out.length = s.sent + s.out.length := by
  unfold credit
  split
  · rfl
  · split
    · rfl
    · split
      · rfl
      · show s.sent + min _ s.out.length + (s.out.drop (min _ s.out.length)).length = _
        rw [List.length_drop]
        omega
theorem took_push (h : s.Ok) (hq : s.Qu) : Took s s.push := by
  obtain ⟨h1, h2⟩ := kept_push h
  obtain ⟨n, t, ps, e⟩ := push_shape s
  refine ⟨h1.ok, fun h12 => ?_, ⟨ps, by rw [e], ?_⟩, ?_, h1.got, fun h0 => by rw [h1.state]; exact h0⟩
  · have h3 : s.state = 1 ∨ s.state = 2 := h1.state ▸ h12
    have : s.push = s := by unfold TS.push; rw [if_neg (by omega)]
    rw [this]
    exact hq h3
  · rw [e] at h2
    have : (s.pack ++ ps).length ≤ s.pack.length + 1025 := h2
    rw [List.length_append] at this
    omega
  · rw [e]
    exact Nat.le_refl _
theorem took_talk (h : s.Ok) (hq : s.Qu) (hs : s.state = 2 ∨ s.state = 3 ∨ s.state = 4) {p : Pk} (hp : okP p = true) (hi : PkIn p) : Took s (s.talk p) := by
  obtain ⟨p1, p2, p3, p4, p5⟩ := okP_rows hp
  rw [talk_eq]
  have h1 := h.talk1 hq
  have e1 : ∃ st una nxt timer tries, s.talk1 = { s with state := st, una := una, nxt := nxt, timer := timer, tries := tries } ∧ (st = 3 ∨ st = 4) := by
    unfold TS.talk1
    split
    · exact ⟨3, _, _, _, _, rfl, .inl rfl⟩
    · exact ⟨s.state, s.una, s.nxt, s.timer, s.tries, rfl, by omega⟩
  obtain ⟨st, una, nxt, timer, tries, e1, hst⟩ := e1
  have q1 : s.talk1.Qu := fun e => by rw [e1] at e; have : st = 1 ∨ st = 2 := e; omega
  have t1 : Took s s.talk1 := ⟨h1, q1, ⟨[], by rw [e1, List.append_nil], Nat.zero_le _⟩, by rw [e1]; exact Nat.le_refl _, by rw [e1], fun _ => by rw [e1]; show st ≠ 0; omega⟩
  have tr : ∀ s', Took s.talk1 s' → Took s s' := fun s' t => ⟨t.ok, t.qu, by
    obtain ⟨ps, e, l⟩ := t.pre
    exact ⟨ps, by rw [e, e1], l⟩, Nat.le_trans t.sent t1.sent, t.got.trans t1.got, fun h0 => t.st (t1.st h0)⟩
  split
  · exact tr _ (.ack h1 q1)
  · split
    · exact tr _ (.ack h1 q1)
    · refine tr _ ?_
      have hst1 : s.talk1.state = 3 ∨ s.talk1.state = 4 := by rw [e1]; exact hst
      have c1 := h1.credit hst1 (p := p) ⟨p3, p4⟩
      have cs := credit_sent s.talk1 p
      obtain ⟨a1, a2, a3, a4, a5, a6, a7, a8, ec⟩ := credit_shape s.talk1 p
      obtain ⟨b1, b2, b3, b4, b5, b6, eb⟩ := talk2_shape (s.talk1.credit p).2 p
      obtain ⟨ps, e3, l3⟩ := talk3_shape ((s.talk1.credit p).2.talk2 p) p
      have c2 := c1.talk2 hi.seq (by omega : p.data.length ≤ 2000)
      have c3 := c2.talk3 p
      have k4 := (kept_push c3).2
      have c4 := (kept_push c3).1
      obtain ⟨n4, t4, ps4, e4⟩ := push_shape (((s.talk1.credit p).2.talk2 p).talk3 p)
      have hst4 : (((s.talk1.credit p).2.talk2 p).talk3 p).push.state = s.talk1.state := by rw [e4, e3, eb, ec]
      have ok5 : (((s.talk1.credit p).2.talk2 p).talk3 p).push.talk5.Ok := by
        unfold TS.talk5
        split
        · exact c4.ok.over (by rw [hst4]; omega)
        · exact c4.ok
      have e5 : ∃ st5, (((s.talk1.credit p).2.talk2 p).talk3 p).push.talk5 = { (((s.talk1.credit p).2.talk2 p).talk3 p).push with state := st5 } ∧ (st5 = 3 ∨ st5 = 4) := by
        unfold TS.talk5
        split
        · exact ⟨4, rfl, .inr rfl⟩
        · exact ⟨(((s.talk1.credit p).2.talk2 p).talk3 p).push.state, rfl, hst4.symm ▸ hst1⟩
      obtain ⟨st5, e5, hst5⟩ := e5
      refine ⟨ok5, fun e => ?_, ⟨ps ++ ps4, ?_, ?_⟩, ?_, ?_, fun _ => ?_⟩
      · rw [e5] at e
        have : st5 = 1 ∨ st5 = 2 := e
        omega
      · rw [e5, e4, e3, eb, ec, ← List.append_assoc]
      · have : (((s.talk1.credit p).2.talk2 p).talk3 p).push.pack.length ≤ (((s.talk1.credit p).2.talk2 p).talk3 p).pack.length + 1025 := k4
        rw [e4] at this
        have : ((((s.talk1.credit p).2.talk2 p).talk3 p).pack ++ ps4).length ≤ (((s.talk1.credit p).2.talk2 p).talk3 p).pack.length + 1025 := this
        rw [List.length_append] at this
        rw [List.length_append]
        omega
      · rw [e5, e4, e3, eb]
        exact Nat.le_of_eq cs
      · rw [e5, e4, e3, eb, ec]
      · rw [e5]
        show st5 ≠ 0
        omega
theorem took_takes (h : s.Ok) (hq : s.Qu) (hs : s.state = 2 ∨ s.state = 3 ∨ s.state = 4) {p : Pk} (hp : okP p = true) (hi : PkIn p) : Took s (s.takes p) := by
  unfold TS.takes
  split
  · split
    · exact .reset h
    · exact .self h hq
  · split
    · exact .syn h hq
    · split
      · exact .ack h hq
      · split
        · exact .self h hq
        · split
          · exact .refuse h hq p
          · exact took_talk h hq hs hp hi
theorem Ok.greeted (h : s.Ok) (hq : s.Qu) (h1 : s.state = 1) {p : Pk} (hp : okP p = true) (hi : PkIn p) : ({ s with irs := p.seq, rcv := 1, wnd := p.wn } : TS).opened.Ok := by
  obtain ⟨p1, p2, p3, p4, p5⟩ := okP_rows hp
  have h2 : ({ s with irs := p.seq, rcv := 1, wnd := p.wn } : TS).Ok := ⟨h.inn, h.out, hi.seq, h.iss, p3, p4, h.st, h.sn, h.early, h.win, fun e => absurd ((hq (.inl h1)).2.2.2.symm.trans e) (by decide), h.tim, h.u1⟩
  exact h2.opened hq (.inl h1)
theorem took_answered (h : s.Ok) (hq : s.Qu) (h1 : s.state = 1) {p : Pk} (hp : okP p = true) (hi : PkIn p) : Took s (s.answered p) := by
  unfold TS.answered
  dsimp only
  split
  · exact .refuse h hq p
  · split
    · split
      · exact .reset h
      · exact .self h hq
    · split
      · have h2 := h.greeted hq h1 hp hi
        have q2 : ({ s with irs := p.seq, rcv := 1, wnd := p.wn } : TS).opened.ack.Qu := fun e => absurd (show (3 : Nat) = 1 ∨ (3 : Nat) = 2 from e) (by decide)
        have t := took_push h2.ack q2
        refine ⟨t.ok, t.qu, ?_, t.sent, t.got, fun _ => t.st (by show (3 : Nat) ≠ 0; decide)⟩
        have k := (kept_push h2.ack).2
        obtain ⟨n, tp, ps, e⟩ := push_shape ({ s with irs := p.seq, rcv := 1, wnd := p.wn } : TS).opened.ack
        rw [e] at k ⊢
        have k : (s.pack ++ [_] ++ ps).length ≤ (s.pack ++ [_]).length + 1025 := k
        refine ⟨[_] ++ ps, by rw [← List.append_assoc]; rfl, ?_⟩
        rw [List.length_append, List.length_append, List.length_singleton] at k
        rw [List.length_append, List.length_singleton]
        omega
      · exact .self h hq
end TS
end Go.Proofs.Ytjhnnnklfhbebaa
namespace Go.Proofs.Ytjhnnnklfhbebaa
open Go.RowKit
set_option linter.unusedVariables false
set_option linter.unusedSimpArgs false
section
variable {N : Nat → Prop} {w : World} {k : Nat} {s : TS} {vp : Value}
/-- A packet in a box, whose bytes stand elsewhere. -/
def BoxIs (w : World) (k : Nat) (vp : Value) (p : Pk) (A : Option Addr) (n c : Nat) (g : Nat) : Prop :=
  BK w g 32 (p.cs A n c) ∧ RB w A p.data ∧ k ≠ g ∧ vp.ownBlock ≠ some g ∧ (0 < n → ∀ b o, A = some ⟨b, o, none⟩ → b ≠ k ∧ vp.ownBlock ≠ some b)
theorem BoxIs.chg {w' : World} {vp' : Value} {p : Pk} {A : Option Addr} {n c g : Nat} (h : BoxIs w k vp p A n c g) (hn : p.data.length = n) (hc : Chg k vp w w') (ha : After w vp vp') : BoxIs w' k vp' p A n c g := by
  obtain ⟨h1, h2, h3, h4, h5⟩ := h
  have hlt := h1.lt
  refine ⟨h1.same (hc.block g hlt (fun e => h3 e.symm) h4), h2.chg hc (fun h0 => h5 (by omega)), h3, fun e => (ha g e).elim h4 (fun e2 => by omega), fun h0 b o e => ?_⟩
  obtain ⟨e1, e2⟩ := h5 h0 b o e
  refine ⟨e1, fun e3 => (ha b e3).elim e2 fun e4 => ?_⟩
  obtain ⟨b', o', e', hc'⟩ := h2 0 (by omega)
  rw [e] at e'
  injection e' with e'
  injection e' with e5 e6
  subst e5
  have := World.block_lt_of_cell? w _ hc'
  simp at this
  omega
/-- An endpoint, changed since, and the packet's box. -/
def TkAt (N : Nat → Prop) (w0 : World) (k : Nat) (vp0 : Value) (p : Pk) (A : Option Addr) (n c g : Nat) (s : TS) (vp : Value) (w : World) : Prop :=
  ConnIs N w k s vp ∧ Chg k vp0 w0 w ∧ After w0 vp0 vp ∧ BoxIs w k vp p A n c g
theorem TkAt.step {N : Nat → Prop} {w0 w w' : World} {k : Nat} {vp0 vp vp' : Value} {p : Pk} {A : Option Addr} {n c g : Nat} {s s' : TS} (h : TkAt N w0 k vp0 p A n c g s vp w) (hn : p.data.length = n) (hi : ConnIs N w' k s' vp') (hc : Chg k vp w w') (ha : After w vp vp') : TkAt N w0 k vp0 p A n c g s' vp' w' :=
  ⟨hi, h.2.1.trans hc h.2.2.1, h.2.2.1.trans ha h.2.1.size, h.2.2.2.chg hn hc ha⟩
theorem TkAt.ext {N : Nat → Prop} {w0 w w' : World} {k : Nat} {vp0 vp : Value} {p : Pk} {A : Option Addr} {n c g : Nat} {s : TS} (h : TkAt N w0 k vp0 p A n c g s vp w) (hn : p.data.length = n) (hb : Below w.heap.size w w') : TkAt N w0 k vp0 p A n c g s vp w' :=
  h.step hn (h.1.ext hb) (Chg.below hb) (After.refl _ _)
theorem TkAt.hN {N : Nat → Prop} {w0 w : World} {k : Nat} {vp0 vp : Value} {p : Pk} {A : Option Addr} {n c g : Nat} {s : TS} (h : TkAt N w0 k vp0 p A n c g s vp w) (hN : ∀ b, N b → b < w0.heap.size) : ∀ b, N b → b < w.heap.size := fun b hb => Nat.lt_of_lt_of_le (hN b hb) h.2.1.size
theorem BoxIs.cells {p : Pk} {A : Option Addr} {n c g : Nat} (h : BoxIs w k vp p A n c g) :
    w.cell? ⟨g, 0, none⟩ = some (.int .i64 p.src) ∧ w.cell? ⟨g, 1, none⟩ = some (.int .i64 p.dst) ∧ w.cell? ⟨g, 2, none⟩ = some (.int .i64 p.sp) ∧ w.cell? ⟨g, 3, none⟩ = some (.int .i64 p.dp) ∧ w.cell? ⟨g, 4, none⟩ = some (.int .u32 (p.seq : Int)) ∧ w.cell? ⟨g, 5, none⟩ = some (.int .u32 (p.ack : Int)) ∧
    w.cell? ⟨g, 6, none⟩ = some (.int .i64 p.fl) ∧ w.cell? ⟨g, 7, none⟩ = some (.int .i64 p.wn) ∧ w.cell? ⟨g, 8, none⟩ = some (.int .i64 p.pr) ∧ w.cell? ⟨g, 9, none⟩ = some (.int .i64 p.og) ∧ w.cell? ⟨g, 10, none⟩ = some (.slice A n c) :=
  ⟨h.1.cell rfl, h.1.cell rfl, h.1.cell rfl, h.1.cell rfl, h.1.cell rfl, h.1.cell rfl, h.1.cell rfl, h.1.cell rfl, h.1.cell rfl, h.1.cell rfl, h.1.cell rfl⟩
theorem credit_false {s : TS} {p : Pk} (h : (s.credit p).1 = false) : (s.credit p).2 = s := by
  unfold TS.credit at h ⊢
  split
  · rfl
  · rename_i h1
    rw [if_neg h1] at h
    split at h
    · cases h
    · split at h <;> cases h
theorem TkAt.did {N : Nat → Prop} {w0 w : World} {k : Nat} {vp0 vp : Value} {p : Pk} {A : Option Addr} {n c g : Nat} {s s' : TS} {v : Value} {e : Ending} {w' : World} (h : TkAt N w0 k vp0 p A n c g s vp w) (hd : Did N w k vp s' v e w') : Did N w0 k vp0 s' v e w' := by
  obtain ⟨vp1, e1, h1, h2, h3⟩ := hd
  exact ⟨vp1, e1, h1, h.2.1.trans h2 h.2.2.1, h.2.2.1.trans h3 h.2.1.size⟩
theorem TkAt.stepD {N : Nat → Prop} {w0 w : World} {k : Nat} {vp0 vp : Value} {p : Pk} {A : Option Addr} {n c g : Nat} {s s' : TS} {v : Value} {e : Ending} {w' : World} (h : TkAt N w0 k vp0 p A n c g s vp w) (hn : p.data.length = n) (hd : Did N w k vp s' v e w') : e = .returned v ∧ ∃ vp', TkAt N w0 k vp0 p A n c g s' vp' w' := by
  obtain ⟨vp1, e1, h1, h2, h3⟩ := hd
  exact ⟨e1, vp1, h.step hn h1 h2 h3⟩
theorem over_store (h : ConnIs N w k s vp) : ConnIs N (w.setCell ⟨k, 2069, none⟩ (.int .i64 4)) k { s with state := 4 } vp ∧ Chg k vp w (w.setCell ⟨k, 2069, none⟩ (.int .i64 4)) :=
  ⟨h.setT { s with state := 4 } 4 2069 rfl (.int .i64 4) (fun _ _ => rfl) (fun _ _ => rfl) rfl rfl rfl rfl (fun e => ⟨e, rfl⟩), Chg.grown (grown_setCell _ _ _ _) (.inl rfl)⟩
theorem opened_stores (h : ConnIs N w k s vp) : ConnIs N (((((w.setCell ⟨k, 2069, none⟩ (.int .i64 3)).setCell ⟨k, 6, none⟩ (.int .u32 (s.num 1 : Int))).setCell ⟨k, 7, none⟩ (.int .u32 (s.num 1 : Int))).setCell ⟨k, 2070, none⟩ (.int .i64 0)).setCell ⟨k, 2071, none⟩ (.int .i64 0)) k s.opened vp ∧ Chg k vp w (((((w.setCell ⟨k, 2069, none⟩ (.int .i64 3)).setCell ⟨k, 6, none⟩ (.int .u32 (s.num 1 : Int))).setCell ⟨k, 7, none⟩ (.int .u32 (s.num 1 : Int))).setCell ⟨k, 2070, none⟩ (.int .i64 0)).setCell ⟨k, 2071, none⟩ (.int .i64 0)) := by
  have h1 := h.setT { s with state := 3 } 4 2069 rfl (.int .i64 3) (fun _ _ => rfl) (fun _ _ => rfl) rfl rfl rfl rfl (fun e => ⟨e, rfl⟩)
  have h2 := h1.setH { s with state := 3, una := 1 } 6 (by decide) (.int .u32 (s.num 1 : Int)) (fun _ _ => rfl) (fun _ _ => rfl) rfl rfl rfl rfl (fun e => ⟨e, rfl⟩)
  have h3 := h2.setH { s with state := 3, una := 1, nxt := 1 } 7 (by decide) (.int .u32 (s.num 1 : Int)) (fun _ _ => rfl) (fun _ _ => rfl) rfl rfl rfl rfl (fun e => ⟨e, rfl⟩)
  have h4 := h3.setT { s with state := 3, una := 1, nxt := 1, timer := 0 } 5 2070 rfl (.int .i64 0) (fun _ _ => rfl) (fun _ _ => rfl) rfl rfl rfl rfl (fun e => ⟨e, rfl⟩)
  have h5 := h4.setT { s with state := 3, una := 1, nxt := 1, timer := 0, tries := 0 } 6 2071 rfl (.int .i64 0) (fun _ _ => rfl) (fun _ _ => rfl) rfl rfl rfl rfl (fun e => ⟨e, rfl⟩)
  exact ⟨h5, ((((Chg.grown (grown_setCell _ _ _ _) (.inl rfl)).trans (Chg.grown (grown_setCell _ _ _ _) (.inl rfl)) (After.refl _ _)).trans (Chg.grown (grown_setCell _ _ _ _) (.inl rfl)) (After.refl _ _)).trans (Chg.grown (grown_setCell _ _ _ _) (.inl rfl)) (After.refl _ _)).trans (Chg.grown (grown_setCell _ _ _ _) (.inl rfl)) (After.refl _ _)⟩
set_option maxRecDepth 100000 in
set_option maxHeartbeats 2000000 in
theorem talk_calls (h : ConnIs N w k s vp) (hN : ∀ b, N b → b < w.heap.size) (hb : s.Ok) (hq : s.Qu) (hs : s.state = 2 ∨ s.state = 3 ∨ s.state = 4) (hpk : s.pack.length ≤ 600000) (hsn : s.sent ≤ 1000000000000)
    (p : Pk) (A : Option Addr) (n c : Nat) (hn : p.data.length = n) (hnc : n ≤ c) (hok : okP p = true) (hi : TS.PkIn p) (hr : RB w A p.data) (hAk : 0 < n → ∀ b o, A = some ⟨b, o, none⟩ → b ≠ k ∧ vp.ownBlock ≠ some b) :
    Calls Try.prog 86 #[.pointer (some ⟨k, 0, none⟩), .agg (p.cs A n c).toArray] w (Did N w k vp (s.talk p) (.tuple #[])) := by
  have hl := (okP_rows hok).2.2.2.2
  rw [hn] at hl
  have H := Lib.hid h
  have HN := Lib.hid hN
  have HOK := Lib.hid hb
  have HQ := Lib.hid hq
  have HST := Lib.hid hs
  have HPK := Lib.hid hpk
  have HSN := Lib.hid hsn
  have HL := Lib.hid hn
  have HOP := Lib.hid hok
  have HI := Lib.hid hi
  have HT1 : Hid s.talk1.Ok := Lib.hid (hb.talk1 hq)
  have HTK := Lib.hid (takes_n p A n c (by omega))
  obtain ⟨T, hT⟩ : ∃ T, takesN p.fl n = T := ⟨_, rfl⟩
  have hT2 : T ≤ n + 2 := by rw [← hT]; exact takesN_le _ _
  rw [hT] at HTK
  have HTE := Lib.hid hT
  have HRB := Lib.hid hr
  have HAK := Lib.hid hAk
  have hkl := h.lt.1
  have c2069 := h.cellT 4 (fun _ _ => rfl) 2069 rfl
  have c5 := h.cellH 5 (by decide) (fun _ _ => rfl)
  obtain ⟨st, hst⟩ : ∃ st, s.state = st := ⟨_, rfl⟩
  rw [hst] at c2069
  have HSTE := Lib.hid hst
  have HE : Hid (s.talk p = if s.talk1.fits p = false then s.talk1.ack else if (s.talk1.credit p).1 = false then s.talk1.ack else (((s.talk1.credit p).2.talk2 p).talk3 p).push.talk5) := Lib.hid rfl
  obtain ⟨R, hR⟩ : ∃ R, s.talk p = R := ⟨_, rfl⟩
  rw [hR] at HE ⊢
  clear h hN hb hq hs hpk hsn hn hok hi hT hr hAk hst hR
  simp only [Pk.cs] at HTK ⊢
  go_enter Try.func86, Try.ntmps86
  go_upto_region 1 with fail
  obtain ⟨g, hg⟩ : ∃ g, w.heap.size = g := ⟨_, rfl⟩
  have hkg : k < g := by omega
  rw [hg]
  refine name_world (fun W => TkAt N w k vp p A n c g s vp W ∧ w.heap.size ≤ W.heap.size) (by
    have hb : Below w.heap.size w (w.alloc (.cells (p.cs A n c).toArray 32)) := ext_alloc _ _
    refine ⟨⟨H.out.ext hb, Chg.below hb, After.refl _ _, hg ▸ BK.new _ _ _, HRB.out.ext hb, by omega, fun e => ?_, HAK.out⟩, hb.size⟩
    have := H.out.lt.2 _ e
    omega) ?_
  rintro w1 ⟨h1, hsz⟩
  have c2069 : w1.cell? ⟨k, 2069, none⟩ = some (.int .i64 (st : Int)) := by rw [← HSTE.out]; exact h1.1.cellT 4 (fun _ _ => rfl) 2069 rfl
  have c5 := h1.1.cellH 5 (by decide) (fun _ _ => rfl)
  have f6 := h1.1.frozen 6
  have f7 := h1.1.frozen 7
  have f2069 := h1.1.frozen 2069
  have f2070 := h1.1.frozen 2070
  have f2071 := h1.1.frozen 2071
  have c6 := h1.1.cellH 6 (by decide) (fun _ _ => rfl)
  have c7 := h1.1.cellH 7 (by decide) (fun _ _ => rfl)
  have c2070 := h1.1.cellT 5 (fun _ _ => rfl) 2070 rfl
  have c2071 := h1.1.cellT 6 (fun _ _ => rfl) 2071 rfl
  have hkl1 := h1.1.lt.1
  obtain ⟨iss, hiss⟩ : ∃ iss, s.iss = iss := ⟨_, rfl⟩
  rw [hiss] at c5
  obtain ⟨i1, hi1⟩ : ∃ i1, s.num 1 = i1 := ⟨_, rfl⟩
  have hwi : IntKind.u32.wrap ((iss : Int) + 1) = (i1 : Int) := by rw [← hi1, ← hiss, show (s.iss : Int) + 1 = ((s.iss + 1 : Nat) : Int) from rfl, wrap_u32_nat]; rfl
  have HOS := Lib.hid (opened_stores h1.1)
  rw [hi1] at HOS
  have H1 := Lib.hid h1
  clear h1 hg hiss hi1
  go_upto_if 8 with fail
  go_cut [] from 4 to 37 (fun wc => Hid (TkAt N w k vp p A n c g s.talk1 vp wc))
  case first =>
    by_cases h2 : st = 2
    · have HX : Hid (s.talk1 = s.opened) := Lib.hid (by unfold TS.talk1; rw [if_pos (HSTE.out.trans h2)])
      subst h2
      go_upto_region 2 with fail
      go_region
      go_wp2_with fail
      go_meet
      case rel => exact Lib.hid (by rw [HX.out]; exact (H1.out.step HL.out HOS.out.1 HOS.out.2 (After.refl _ _)).ext HL.out (Below.refl _ _).drew)
    · have HX : Hid (s.talk1 = s) := Lib.hid (by unfold TS.talk1; rw [if_neg (fun e => h2 (HSTE.out.symm.trans e))])
      go_wp2_with fail
      go_meet
      case rel => exact Lib.hid (by rw [HX.out]; exact H1.out)
  case rest =>
    obtain ⟨s1, hs1⟩ : ∃ s1, s.talk1 = s1 := ⟨_, rfl⟩
    have h2 := hcut.out
    rw [hs1] at h2 HT1 HE
    clear hcut H1 HOS c2069 c5 c6 c7 c2070 c2071 f6 f7 f2069 f2070 f2071 hwi
    obtain ⟨w2, rfl⟩ : ∃ w2, w2 = wc := ⟨_, rfl⟩
    have HP1 : Hid (s1.pack.length ≤ 600000 ∧ s1.sent ≤ 1000000000000 ∧ (s1.state = 3 ∨ s1.state = 4)) := Lib.hid (by
      have h1 := HPK.out
      have h2 := HSN.out
      have h3 := HST.out
      rw [← hs1]
      unfold TS.talk1
      split
      · exact ⟨h1, h2, .inl rfl⟩
      · exact ⟨h1, h2, by omega⟩)
    have HFI := Lib.hid (fits_calls h2.1 HT1.out.inn p A n c HL.out (by omega) HI.out.seq)
    have HAC := Lib.hid (fun (W : World) (v : Value) (h : TkAt N w k vp p A n c g s1 v W) => ack_calls h.1 (h.hN HN.out) (HT1.out.bd (by have := HP1.out.1; omega)))
    have HCR := Lib.hid (fun (W : World) (h : TkAt N w k vp p A n c g s1 vp W) => credit_calls h.1 (h.hN HN.out) (HT1.out.sn' (by have := HP1.out.2.2; omega)) HT1.out.out HP1.out.2.1 p A n c HI.out.ack)
    have HCF : Hid ((s1.credit p).1 = false → (s1.credit p).2 = s1) := Lib.hid credit_false
    have HC4 : Hid ((s1.credit p).2.Ok ∧ (s1.credit p).2.pack = s1.pack ∧ (s1.credit p).2.state = s1.state) := Lib.hid (by
      obtain ⟨q1, q2, q3, q4, q5⟩ := okP_rows HOP.out
      obtain ⟨a1, a2, a3, a4, a5, a6, a7, a8, ec⟩ := TS.credit_shape s1 p
      refine ⟨HT1.out.credit HP1.out.2.2 ⟨q3, q4⟩, ?_, ?_⟩ <;> rw [ec])
    obtain ⟨F, hF⟩ : ∃ F, s1.fits p = F := ⟨_, rfl⟩
    rw [hF] at HFI HE
    obtain ⟨C1, hC1⟩ : ∃ C1, (s1.credit p).1 = C1 := ⟨_, rfl⟩
    obtain ⟨s4, hs4⟩ : ∃ s4, (s1.credit p).2 = s4 := ⟨_, rfl⟩
    rw [hC1, hs4] at HCR HCF HE
    rw [hs4] at HC4
    obtain ⟨q0, q1, q2, q3, q4, q5, q6, q7, q8, q9, q10⟩ := h2.2.2.2.cells
    have H2 := Lib.hid h2
    clear h2 hF hC1 hs4 hs1
    simp only [Pk.cs] at HFI HCR
    go_wp2_with fail
    refine HFI.out.mono ?_
    rintro e w3 ⟨rfl, hb3⟩
    have h3 := H2.out.ext HL.out hb3
    clear q0 q1 q2 q3 q4 q5 q6 q7 q8 q9 q10 HFI hb3 H2
    have H3 := Lib.hid h3
    cases F with
    | false =>
      have HX : Hid (R = s1.ack) := Lib.hid (by rw [HE.out, if_pos rfl])
      clear HE h3
      go_wp2_with fail
      refine (HAC.out _ _ H3.out).mono ?_
      rintro e w4 hd
      have HD := Lib.hid (H3.out.did hd)
      clear hd
      obtain ⟨vp4, rfl, k1, k2, k3⟩ := HD.out
      have HD2 := Lib.hid (show _ ∧ _ ∧ _ from ⟨k1, k2, k3⟩)
      clear k1 k2 k3 HD
      go_wp2_with fail
      go_end0
      exact ⟨vp4, rfl, by rw [HX.out]; exact HD2.out.1, HD2.out.2.1, HD2.out.2.2⟩
    | true =>
      have HE2 : Hid (R = if C1 = false then s1.ack else ((s4.talk2 p).talk3 p).push.talk5) := Lib.hid (by rw [HE.out, if_neg (by decide)])
      obtain ⟨q0, q1, q2, q3, q4, q5, q6, q7, q8, q9, q10⟩ := h3.2.2.2.cells
      clear HE h3
      go_wp2_with fail
      refine (HCR.out _ H3.out).mono ?_
      rintro e w4 ⟨rfl, k1, k2⟩
      have h4 := H3.out.step HL.out k1 k2 (After.refl _ _)
      clear q0 q1 q2 q3 q4 q5 q6 q7 q8 q9 q10 HCR k1 k2 H3
      have H4 := Lib.hid h4
      cases C1 with
      | false =>
        have HX : Hid (R = s1.ack) := Lib.hid (by rw [HE2.out, if_pos rfl])
        have h4' := h4
        rw [HCF.out rfl] at h4'
        have H4' := Lib.hid h4'
        clear HE2 h4 h4'
        go_wp2_with fail
        refine (HAC.out _ _ H4'.out).mono ?_
        rintro e w5 hd
        have HD := Lib.hid (H4'.out.did hd)
        clear hd
        obtain ⟨vp4, rfl, k1, k2, k3⟩ := HD.out
        have HD2 := Lib.hid (show _ ∧ _ ∧ _ from ⟨k1, k2, k3⟩)
        clear k1 k2 k3 HD
        go_wp2_with fail
        go_end0
        exact ⟨vp4, rfl, by rw [HX.out]; exact HD2.out.1, HD2.out.2.1, HD2.out.2.2⟩
      | true =>
        have HX : Hid (R = ((s4.talk2 p).talk3 p).push.talk5) := Lib.hid (by rw [HE2.out, if_neg (by decide)])
        have c2067 := h4.1.cellT 2 (fun _ _ => rfl) 2067 rfl
        have hkl4 := h4.1.lt.1
        obtain ⟨fi, hfi⟩ : ∃ fi, s4.fin = fi := ⟨_, rfl⟩
        rw [hfi] at c2067
        have HFN := Lib.hid hfi
        have HC2 : Hid ((s4.talk2 p).Ok ∧ (s4.talk2 p).pack = s1.pack) := Lib.hid (by
          obtain ⟨b1, b2, b3, b4, b5, b6, eb⟩ := TS.talk2_shape s4 p
          exact ⟨HC4.out.1.talk2 HI.out.seq (by rw [HL.out]; omega), by rw [eb]; exact HC4.out.2.1⟩)
        have HC3 : Hid (((s4.talk2 p).talk3 p).Ok ∧ ((s4.talk2 p).talk3 p).pack.length ≤ 700000) := Lib.hid (by
          obtain ⟨ps, e3, l3⟩ := TS.talk3_shape (s4.talk2 p) p
          refine ⟨HC2.out.1.talk3 p, ?_⟩
          rw [e3]
          show ((s4.talk2 p).pack ++ ps).length ≤ 700000
          rw [HC2.out.2, List.length_append]
          have := HP1.out.1
          omega)
        clear HE2 h4 hfi
        go_upto_if 55 with fail
        go_cut [] from 50 to 60 (fun wc => Hid (TkAt N w k vp p A n c g (s4.talk2 p) vp wc))
        case first =>
          cases fi with
          | true =>
            have HX5 : Hid (s4.talk2 p = s4) := Lib.hid (by unfold TS.talk2; rw [if_neg (fun e => by rw [HFN.out] at e; cases e)])
            go_wp2_with fail
            go_meet
            case rel => exact Lib.hid (by rw [HX5.out]; exact H4.out)
          | false =>
            have HX5 : Hid (s4.talk2 p = (s4.keep p).fill) := Lib.hid (by unfold TS.talk2; rw [if_pos HFN.out])
            have HKC := Lib.hid (keep_calls H4.out.1 HC4.out.1 p A n c HL.out (by omega) hnc HI.out.seq H4.out.2.2.2.2.1 H4.out.2.2.2.2.2.2.2)
            have HOK5 : Hid ((s4.keep p).Ok ∧ (s4.keep p).fin = false) := Lib.hid (by
              obtain ⟨e, t, f, h1⟩ := TS.keep_shape s4 p
              exact ⟨HC4.out.1.keep HI.out.seq (by rw [HL.out]; omega) HFN.out, by rw [h1]; exact HFN.out⟩)
            obtain ⟨q0, q1, q2, q3, q4, q5, q6, q7, q8, q9, q10⟩ := H4.out.2.2.2.cells
            simp only [Pk.cs] at HKC
            go_wp2_with fail
            refine HKC.out.mono ?_
            rintro e w5 ⟨rfl, k1, k2⟩
            have h5 := H4.out.step HL.out k1 k2 (After.refl _ _)
            clear q0 q1 q2 q3 q4 q5 q6 q7 q8 q9 q10 HKC k1 k2 H4 c2067 hkl4
            have H5 := Lib.hid h5
            have hkl5 := h5.1.lt.1
            have HFC := Lib.hid (fill_calls h5.1 (h5.hN HN.out) HOK5.out.1 HOK5.out.2)
            clear h5
            go_wp2_with fail
            refine HFC.out.mono ?_
            rintro e w6 ⟨rfl, k1, k2⟩
            have H6 := Lib.hid (H5.out.step HL.out k1 k2 (After.refl _ _))
            clear k1 k2 HFC H5
            go_wp2_with fail
            go_meet
            case rel => exact Lib.hid (by rw [HX5.out]; exact H6.out)
        case rest =>
          have h7 := hcut.out
          obtain ⟨s5, hs5⟩ : ∃ s5, s4.talk2 p = s5 := ⟨_, rfl⟩
          rw [hs5] at h7 HC2 HC3 HX
          obtain ⟨w7, rfl⟩ : ∃ w7, w7 = wc := ⟨_, rfl⟩
          obtain ⟨q0, q1, q2, q3, q4, q5, q6, q7, q8, q9, q10⟩ := h7.2.2.2.cells
          have H7 := Lib.hid h7
          clear h7 hcut H4 c2067 hkl4 hs5
          go_wp2_with fail
          refine (HTK.out _).mono ?_
          rintro e w8 ⟨rfl, hb8⟩
          have h8 := H7.out.ext HL.out hb8
          have H8 := Lib.hid h8
          have hkl8 := h8.1.lt.1
          clear q0 q1 q2 q3 q4 q5 q6 q7 q8 q9 q10 hb8 h8 H7
          go_upto_if 63 with fail
          go_cut [] from 61 to 65 (fun wc => Hid (∃ vp', TkAt N w k vp p A n c g (s5.talk3 p) vp' wc))
          case first =>
            by_cases h0 : 0 < T
            · have HX8 : Hid (s5.talk3 p = s5.ack) := Lib.hid (by unfold TS.talk3; rw [HL.out, HTE.out, if_pos h0])
              have h0i : (0 : Int) < (T : Int) := by omega
              have HA8 := Lib.hid (ack_calls H8.out.1 (H8.out.hN HN.out) (HC2.out.1.bd (by rw [HC2.out.2]; have := HP1.out.1; omega)))
              go_wp2_with fail
              refine HA8.out.mono ?_
              rintro e w9 hd
              obtain ⟨rfl, hd2⟩ := H8.out.stepD HL.out hd
              have HD := Lib.hid hd2
              clear hd hd2
              go_wp2_with fail
              go_meet
              case rel => exact Lib.hid (by rw [HX8.out]; exact HD.out)
            · have HX8 : Hid (s5.talk3 p = s5) := Lib.hid (by unfold TS.talk3; rw [HL.out, HTE.out, if_neg h0])
              have h0i : ¬ (0 : Int) < (T : Int) := by omega
              go_wp2_with fail
              go_meet
              case rel => exact Lib.hid (by rw [HX8.out]; exact ⟨vp, H8.out⟩)
          case rest =>
            obtain ⟨vp9, h9⟩ := hcut.out
            obtain ⟨s6, hs6⟩ : ∃ s6, s5.talk3 p = s6 := ⟨_, rfl⟩
            rw [hs6] at h9 HC3 HX
            obtain ⟨w9, rfl⟩ : ∃ w9, w9 = wc := ⟨_, rfl⟩
            have H9 := Lib.hid h9
            have HPC := Lib.hid (push_calls h9.1 (h9.hN HN.out) HC3.out.1 HC3.out.2)
            have hkl9 := h9.1.lt.1
            clear h9 hcut H8 hkl8 hs6
            go_wp2_with fail
            refine HPC.out.mono ?_
            rintro e w10 hd
            obtain ⟨rfl, vp10, h10⟩ := H9.out.stepD HL.out hd
            clear hd HPC H9
            obtain ⟨s7, hs7⟩ : ∃ s7, s6.push = s7 := ⟨_, rfl⟩
            rw [hs7] at h10 HX
            have c2067 := h10.1.cellT 2 (fun _ _ => rfl) 2067 rfl
            have c12 := h10.1.cellH 12 (by decide) (fun _ _ => rfl)
            have c2069 := h10.1.cellT 4 (fun _ _ => rfl) 2069 rfl
            have f2069 := h10.1.frozen 2069
            have hkl10 := h10.1.lt.1
            obtain ⟨fi, hfi⟩ : ∃ fi, s7.fin = fi := ⟨_, rfl⟩
            obtain ⟨ov, hov⟩ : ∃ ov, s7.over = ov := ⟨_, rfl⟩
            rw [hfi] at c2067
            rw [hov] at c12
            have HOS := Lib.hid (over_store h10.1)
            have H10 := Lib.hid h10
            have HX5 : Hid (R = if fi = true ∧ ov = true then { s7 with state := 4 } else s7) := Lib.hid (by rw [HX.out]; unfold TS.talk5; rw [hfi, hov])
            clear h10 hs7 hfi hov HX
            cases fi with
            | false =>
              have HX6 : Hid (R = s7) := Lib.hid (by rw [HX5.out, if_neg (fun h => by cases h.1)])
              clear HX5
              go_wp2_with fail
              go_end0
              exact ⟨vp10, rfl, by rw [HX6.out]; exact H10.out.1, H10.out.2.1, H10.out.2.2.1⟩
            | true =>
              cases ov with
              | false =>
                have HX6 : Hid (R = s7) := Lib.hid (by rw [HX5.out, if_neg (fun h => by cases h.2)])
                clear HX5
                go_wp2_with fail
                go_end0
                exact ⟨vp10, rfl, by rw [HX6.out]; exact H10.out.1, H10.out.2.1, H10.out.2.2.1⟩
              | true =>
                have HX6 : Hid (R = { s7 with state := 4 }) := Lib.hid (by rw [HX5.out, if_pos ⟨rfl, rfl⟩])
                have H11 := Lib.hid (H10.out.step HL.out HOS.out.1 HOS.out.2 (After.refl _ _))
                clear HX5
                go_wp2_with fail
                go_end0
                exact ⟨vp10, rfl, by rw [HX6.out]; exact H11.out.1, H11.out.2.1, H11.out.2.2.1⟩
end
end Go.Proofs.Ytjhnnnklfhbebaa
namespace Go.Proofs.Ytjhnnnklfhbebaa
open Go.RowKit
set_option linter.unusedVariables false
set_option linter.unusedSimpArgs false
section
variable {N : Nat → Prop} {w : World} {k : Nat} {s : TS} {vp : Value}
/-- The numbers of what comes are set. -/
theorem greet_stores (h : ConnIs N w k s vp) (ht : s.told = false) (q : Nat) (hq : q < 4294967296) (q1 : Nat) (hq1 : m32 (q + 1) = q1) (wn : Int) :
    ConnIs N (((w.setCell ⟨k, 14, none⟩ (.int .u32 (q : Int))).setCell ⟨k, 15, none⟩ (.int .u32 (q1 : Int))).setCell ⟨k, 10, none⟩ (.int .i64 wn)) k { s with irs := q, rcv := 1, wnd := wn } vp ∧
    Chg k vp w (((w.setCell ⟨k, 14, none⟩ (.int .u32 (q : Int))).setCell ⟨k, 15, none⟩ (.int .u32 (q1 : Int))).setCell ⟨k, 10, none⟩ (.int .i64 wn)) := by
  have e1 : m32 (q + (s.rnum s.rcv + 4294967296 - q)) = s.rnum s.rcv := by
    have : s.rnum s.rcv < 4294967296 := m32_lt _
    unfold m32
    omega
  have h1 := h.setH { s with irs := q, rcv := s.rnum s.rcv + 4294967296 - q } 14 (by decide) (.int .u32 (q : Int)) (fun _ _ => by
    have : TS.rnum { s with irs := q, rcv := s.rnum s.rcv + 4294967296 - q } (s.rnum s.rcv + 4294967296 - q) = s.rnum s.rcv := e1
    unfold TS.hd
    dsimp only
    rw [this]
    rfl) (fun _ _ => rfl) rfl rfl rfl rfl (fun e => absurd (ht.symm.trans e) (by decide))
  have h2 := h1.setH { s with irs := q, rcv := 1 } 15 (by decide) (.int .u32 (q1 : Int)) (fun _ _ => by rw [← hq1]; rfl) (fun _ _ => rfl) rfl rfl rfl rfl (fun e => absurd (ht.symm.trans e) (by decide))
  have h3 := h2.setH { s with irs := q, rcv := 1, wnd := wn } 10 (by decide) (.int .i64 wn) (fun _ _ => rfl) (fun _ _ => rfl) rfl rfl rfl rfl (fun e => absurd (ht.symm.trans e) (by decide))
  exact ⟨h3, ((Chg.grown (grown_setCell _ _ _ _) (.inl rfl)).trans (Chg.grown (grown_setCell _ _ _ _) (.inl rfl)) (After.refl _ _)).trans (Chg.grown (grown_setCell _ _ _ _) (.inl rfl)) (After.refl _ _)⟩
theorem una_stores (h : ConnIs N w k s vp) (i1 : Nat) (hi : s.num 1 = i1) : ConnIs N ((w.setCell ⟨k, 6, none⟩ (.int .u32 (i1 : Int))).setCell ⟨k, 7, none⟩ (.int .u32 (i1 : Int))) k { s with una := 1, nxt := 1 } vp ∧ Chg k vp w ((w.setCell ⟨k, 6, none⟩ (.int .u32 (i1 : Int))).setCell ⟨k, 7, none⟩ (.int .u32 (i1 : Int))) := by
  subst hi
  have h2 := h.setH { s with una := 1 } 6 (by decide) (.int .u32 (s.num 1 : Int)) (fun _ _ => rfl) (fun _ _ => rfl) rfl rfl rfl rfl (fun e => ⟨e, rfl⟩)
  have h3 := h2.setH { s with una := 1, nxt := 1 } 7 (by decide) (.int .u32 (s.num 1 : Int)) (fun _ _ => rfl) (fun _ _ => rfl) rfl rfl rfl rfl (fun e => ⟨e, rfl⟩)
  exact ⟨h3, (Chg.grown (grown_setCell _ _ _ _) (.inl rfl)).trans (Chg.grown (grown_setCell _ _ _ _) (.inl rfl)) (After.refl _ _)⟩
theorem est_stores (h : ConnIs N w k s vp) : ConnIs N (((w.setCell ⟨k, 2069, none⟩ (.int .i64 3)).setCell ⟨k, 2070, none⟩ (.int .i64 0)).setCell ⟨k, 2071, none⟩ (.int .i64 0)) k { s with state := 3, timer := 0, tries := 0 } vp ∧ Chg k vp w (((w.setCell ⟨k, 2069, none⟩ (.int .i64 3)).setCell ⟨k, 2070, none⟩ (.int .i64 0)).setCell ⟨k, 2071, none⟩ (.int .i64 0)) := by
  have h1 := h.setT { s with state := 3 } 4 2069 rfl (.int .i64 3) (fun _ _ => rfl) (fun _ _ => rfl) rfl rfl rfl rfl (fun e => ⟨e, rfl⟩)
  have h4 := h1.setT { s with state := 3, timer := 0 } 5 2070 rfl (.int .i64 0) (fun _ _ => rfl) (fun _ _ => rfl) rfl rfl rfl rfl (fun e => ⟨e, rfl⟩)
  have h5 := h4.setT { s with state := 3, timer := 0, tries := 0 } 6 2071 rfl (.int .i64 0) (fun _ _ => rfl) (fun _ _ => rfl) rfl rfl rfl rfl (fun e => ⟨e, rfl⟩)
  exact ⟨h5, ((Chg.grown (grown_setCell _ _ _ _) (.inl rfl)).trans (Chg.grown (grown_setCell _ _ _ _) (.inl rfl)) (After.refl _ _)).trans (Chg.grown (grown_setCell _ _ _ _) (.inl rfl)) (After.refl _ _)⟩
theorem hasF_of {p : Pk} {k v : Int} (h : bits .and .i64 p.fl k = v) : hasF p k = decide (v ≠ 0) := by unfold hasF; rw [h]
theorem answered_0 {s : TS} {p : Pk} (h : hasF p 2 = false) : s.answered p = s := by
  unfold TS.answered
  dsimp only
  rw [h, if_neg (fun e => absurd e.1 (by decide)), Bool.false_and]
  split
  · rfl
  · rw [if_neg (fun e => absurd e.2 (by decide))]
theorem answered_no {s : TS} {p : Pk} (h : hasF p 2 = true) (h1 : p.ack ≠ s.num 1) : s.answered p = s.refuse p := by
  unfold TS.answered
  dsimp only
  rw [h, decide_eq_false h1, if_pos ⟨rfl, rfl⟩]
theorem answered_rst {s : TS} {p : Pk} (h : hasF p 2 = true) (h1 : p.ack = s.num 1) (h2 : hasF p 8 = true) : s.answered p = s.reset := by
  unfold TS.answered
  dsimp only
  rw [h, decide_eq_true h1, if_neg (fun e => absurd e.2 (by decide)), if_pos h2]
  exact if_pos rfl
theorem answered_yes {s : TS} {p : Pk} (h : hasF p 2 = true) (h1 : p.ack = s.num 1) (h2 : hasF p 8 = false) (h3 : hasF p 1 = true) : s.answered p = ({ s with irs := p.seq, rcv := 1, wnd := p.wn } : TS).opened.ack.push := by
  unfold TS.answered
  dsimp only
  rw [h, decide_eq_true h1, if_neg (fun e => absurd e.2 (by decide)), if_neg (fun e => by rw [h2] at e; cases e), if_pos ⟨h3, rfl⟩]
theorem answered_ack {s : TS} {p : Pk} (h : hasF p 2 = true) (h1 : p.ack = s.num 1) (h2 : hasF p 8 = false) (h3 : hasF p 1 = false) : s.answered p = s := by
  unfold TS.answered
  dsimp only
  rw [h, decide_eq_true h1, if_neg (fun e => absurd e.2 (by decide)), if_neg (fun e => by rw [h2] at e; cases e), if_neg (fun e => by rw [h3] at e; cases e.1)]
set_option maxRecDepth 100000 in
set_option maxHeartbeats 2000000 in
theorem answered_calls (h : ConnIs N w k s vp) (hN : ∀ b, N b → b < w.heap.size) (hb : s.Ok) (hq : s.Qu) (hs : s.state = 1) (hpk : s.pack.length ≤ 600000)
    (p : Pk) (A : Option Addr) (n c : Nat) (hn : p.data.length = n) (hok : okP p = true) (hi : TS.PkIn p) (hr : RB w A p.data) (hAk : 0 < n → ∀ b o, A = some ⟨b, o, none⟩ → b ≠ k ∧ vp.ownBlock ≠ some b) :
    Calls Try.prog 47 #[.pointer (some ⟨k, 0, none⟩), .agg (p.cs A n c).toArray] w (Did N w k vp (s.answered p) (.tuple #[])) := by
  have hl := (okP_rows hok).2.2.2.2
  rw [hn] at hl
  have H := Lib.hid h
  have HN := Lib.hid hN
  have HOK := Lib.hid hb
  have HQ := Lib.hid hq
  have HST := Lib.hid hs
  have HPK := Lib.hid hpk
  have HL := Lib.hid hn
  have HOP := Lib.hid hok
  have HI := Lib.hid hi
  have HRB := Lib.hid hr
  have HAK := Lib.hid hAk
  have hkl := h.lt.1
  obtain ⟨R, hR⟩ : ∃ R, s.answered p = R := ⟨_, rfl⟩
  have HR := Lib.hid hR
  rw [hR]
  clear h hN hb hq hs hpk hn hok hi hr hAk hR
  simp only [Pk.cs]
  go_enter Try.func47, Try.ntmps47
  go_upto_region 1 with fail
  obtain ⟨g, hg⟩ : ∃ g, w.heap.size = g := ⟨_, rfl⟩
  have hkg : k < g := by omega
  rw [hg]
  refine name_world (fun W => TkAt N w k vp p A n c g s vp W ∧ w.heap.size ≤ W.heap.size) (by
    have hb : Below w.heap.size w (w.alloc (.cells (p.cs A n c).toArray 32)) := ext_alloc _ _
    refine ⟨⟨H.out.ext hb, Chg.below hb, After.refl _ _, hg ▸ BK.new _ _ _, HRB.out.ext hb, by omega, fun e => ?_, HAK.out⟩, hb.size⟩
    have := H.out.lt.2 _ e
    omega) ?_
  rintro w1 ⟨h1, hsz⟩
  obtain ⟨q0, q1, q2, q3, q4, q5, q6, q7, q8, q9, q10⟩ := h1.2.2.2.cells
  have c5 := h1.1.cellH 5 (by decide) (fun _ _ => rfl)
  have hkl1 := h1.1.lt.1
  have H1 := Lib.hid h1
  have HS1 := Lib.hid hsz
  obtain ⟨fl, hfl⟩ : ∃ fl, p.fl = fl := ⟨_, rfl⟩
  obtain ⟨ak, hak⟩ : ∃ ak, p.ack = ak := ⟨_, rfl⟩
  rw [hfl] at q6
  rw [hak] at q5
  have HFL := Lib.hid hfl
  have HACK := Lib.hid hak
  have hak32 := HI.out.ack
  rw [hak] at hak32
  obtain ⟨i1, hi1⟩ : ∃ i1, s.num 1 = i1 := ⟨_, rfl⟩
  have hi32 : i1 < 4294967296 := by rw [← hi1]; exact m32_lt _
  have hwi : IntKind.u32.wrap ((s.iss : Int) + 1) = (i1 : Int) := by rw [← hi1, show (s.iss : Int) + 1 = ((s.iss + 1 : Nat) : Int) from rfl, wrap_u32_nat]; rfl
  have HI1 := Lib.hid hi1
  clear h1 hg hfl hak hi1 hsz
  rcases fbit2 fl with z2 | z2
  · have HX : Hid (R = s) := Lib.hid (by rw [← HR.out]; exact answered_0 (by rw [hasF_of (v := 0) (by rw [HFL.out]; exact z2)]; rfl))
    rcases fbit8 fl with z8 | z8
    · rcases fbit1 fl with z1 | z1
      · go_quiet (fail)
        go_wp2_with fail
        go_end0
        exact ⟨vp, rfl, by rw [HX.out]; exact H1.out.1.ext (ext_drewN (Below.refl _ _) _), H1.out.2.1.trans (Chg.below (ext_drewN (Below.refl _ _) _)) (After.refl _ _), H1.out.2.2.1⟩
      · go_quiet (fail)
        go_wp2_with fail
        go_end0
        exact ⟨vp, rfl, by rw [HX.out]; exact H1.out.1.ext (ext_drewN (Below.refl _ _) _), H1.out.2.1.trans (Chg.below (ext_drewN (Below.refl _ _) _)) (After.refl _ _), H1.out.2.2.1⟩
    · go_quiet (fail)
      go_wp2_with fail
      go_end0
      exact ⟨vp, rfl, by rw [HX.out]; exact H1.out.1.ext (ext_drewN (Below.refl _ _) _), H1.out.2.1.trans (Chg.below (ext_drewN (Below.refl _ _) _)) (After.refl _ _), H1.out.2.2.1⟩
  · have HF2 : Hid (hasF p 2 = true) := Lib.hid (by rw [hasF_of (v := 2) (by rw [HFL.out]; exact z2)]; rfl)
    by_cases hy : ak = i1
    · have HY : Hid (p.ack = s.num 1) := Lib.hid (by rw [HACK.out, HI1.out, hy])
      subst hy
      rcases fbit8 fl with z8 | z8
      · have HF8 : Hid (hasF p 8 = false) := Lib.hid (by rw [hasF_of (v := 0) (by rw [HFL.out]; exact z8)]; rfl)
        rcases fbit1 fl with z1 | z1
        · have HX : Hid (R = s) := Lib.hid (by rw [← HR.out]; exact answered_ack HF2.out HY.out HF8.out (by rw [hasF_of (v := 0) (by rw [HFL.out]; exact z1)]; rfl))
          go_quiet (fail)
          go_wp2_with fail
          go_end0
          exact ⟨vp, rfl, by rw [HX.out]; exact H1.out.1.ext (ext_drewN (Below.refl _ _) _), H1.out.2.1.trans (Chg.below (ext_drewN (Below.refl _ _) _)) (After.refl _ _), H1.out.2.2.1⟩
        · have HX : Hid (R = ({ s with irs := p.seq, rcv := 1, wnd := p.wn } : TS).opened.ack.push) := Lib.hid (by rw [← HR.out]; exact answered_yes HF2.out HY.out HF8.out (by rw [hasF_of (v := 1) (by rw [HFL.out]; exact z1)]; rfl))
          have HGO : Hid (({ s with irs := p.seq, rcv := 1, wnd := p.wn } : TS).opened.Ok) := Lib.hid (HOK.out.greeted HQ.out HST.out HOP.out HI.out)
          go_quiet (fail)
          go_upto_region 8 with fail
          refine name_world (fun W => TkAt N w k vp p A n c g s vp W) (H1.out.ext HL.out (ext_drewN (Below.refl _ _) _)) ?_
          intro w2 h2
          clear q0 q1 q2 q3 q4 q5 q6 q7 q8 q9 q10 c5 hkl1 H1 z2 z8 z1
          obtain ⟨q, hq⟩ : ∃ q, p.seq = q := ⟨_, rfl⟩
          obtain ⟨q1, hq1⟩ : ∃ q1, m32 (q + 1) = q1 := ⟨_, rfl⟩
          have hq32 : q < 4294967296 := by rw [← hq]; exact HI.out.seq
          have hwq : IntKind.u32.wrap ((q : Int) + 1) = (q1 : Int) := by rw [← hq1, show (q : Int) + 1 = ((q + 1 : Nat) : Int) from rfl, wrap_u32_nat]; rfl
          have HGS := Lib.hid (greet_stores h2.1 ((HQ.out (.inl HST.out)).2.2.2) q hq32 q1 hq1 p.wn)
          have g4 : w2.cell? ⟨g, 4, none⟩ = some (.int .u32 (q : Int)) := by rw [← hq]; exact h2.2.2.2.1.cell rfl
          have g7 : w2.cell? ⟨g, 7, none⟩ = some (.int .i64 p.wn) := h2.2.2.2.1.cell rfl
          have c14 := h2.1.cellH 14 (by decide) (fun _ _ => rfl)
          have c15 := h2.1.cellH 15 (by decide) (fun _ _ => rfl)
          have c10 := h2.1.cellH 10 (by decide) (fun _ _ => rfl)
          have f14 := h2.1.frozen 14
          have f15 := h2.1.frozen 15
          have f10 := h2.1.frozen 10
          have hkl2 := h2.1.lt.1
          have H2 := Lib.hid h2
          have HQQ := Lib.hid hq
          clear h2 hq hq1
          go_region
          go_upto_region 9 with fail
          refine name_world (fun W => TkAt N w k vp p A n c g { s with irs := q, rcv := 1, wnd := p.wn } vp W) ((H2.out.step HL.out HGS.out.1 HGS.out.2 (After.refl _ _)).ext HL.out (Below.refl _ _).drew) ?_
          intro w3 h3
          have HUS := Lib.hid (una_stores h3.1 ak HI1.out)
          have c5 := h3.1.cellH 5 (by decide) (fun _ _ => rfl)
          have c6 := h3.1.cellH 6 (by decide) (fun _ _ => rfl)
          have c7 := h3.1.cellH 7 (by decide) (fun _ _ => rfl)
          have f6 := h3.1.frozen 6
          have f7 := h3.1.frozen 7
          have hkl3 := h3.1.lt.1
          have H3 := Lib.hid h3
          clear h3 g4 g7 c14 c15 c10 f14 f15 f10 hkl2 H2 HGS
          go_region
          go_upto_region 10 with fail
          refine name_world (fun W => TkAt N w k vp p A n c g { s with irs := q, rcv := 1, wnd := p.wn, una := 1, nxt := 1 } vp W) ((H3.out.step HL.out HUS.out.1 HUS.out.2 (After.refl _ _)).ext HL.out (Below.refl _ _).drew) ?_
          intro w4 h4
          have HES := Lib.hid (est_stores h4.1)
          have c2069 := h4.1.cellT 4 (fun _ _ => rfl) 2069 rfl
          have c2070 := h4.1.cellT 5 (fun _ _ => rfl) 2070 rfl
          have c2071 := h4.1.cellT 6 (fun _ _ => rfl) 2071 rfl
          have f2069 := h4.1.frozen 2069
          have f2070 := h4.1.frozen 2070
          have f2071 := h4.1.frozen 2071
          have hkl4 := h4.1.lt.1
          have H4 := Lib.hid h4
          clear h4 c5 c6 c7 f6 f7 hkl3 H3 HUS
          go_upto_region 11 with fail
          obtain ⟨s5, hs5⟩ : ∃ s5, ({ s with irs := p.seq, rcv := 1, wnd := p.wn } : TS).opened = s5 := ⟨_, rfl⟩
          refine name_world (fun W => TkAt N w k vp p A n c g s5 vp W) (by rw [← hs5, HQQ.out]; exact H4.out.step HL.out HES.out.1 HES.out.2 (After.refl _ _)) ?_
          intro w5 h5
          have hp5 : s5.pack = s.pack := by rw [← hs5]; rfl
          rw [hs5] at HX HGO
          have HAC := Lib.hid (ack_calls h5.1 (h5.hN HN.out) (HGO.out.bd (by rw [hp5]; have := HPK.out; omega)))
          have HP6 : Hid (s5.ack.pack.length ≤ 700000) := Lib.hid (by
            show (s5.pack ++ [_]).length ≤ 700000
            rw [hp5, List.length_append, List.length_singleton]
            have := HPK.out
            omega)
          have H5 := Lib.hid h5
          clear h5 hp5 hs5 c2069 c2070 c2071 f2069 f2070 f2071 hkl4 H4 HES
          go_wp2_with fail
          refine HAC.out.mono ?_
          rintro e w6 hd
          obtain ⟨rfl, vp6, h6⟩ := H5.out.stepD HL.out hd
          have HPC := Lib.hid (push_calls h6.1 (h6.hN HN.out) HGO.out.ack HP6.out)
          have H6 := Lib.hid h6
          clear h6 hd HAC H5
          go_wp2_with fail
          refine HPC.out.mono ?_
          rintro e w7 hd
          obtain ⟨rfl, vp7, h7⟩ := H6.out.stepD HL.out hd
          have H7 := Lib.hid h7
          clear h7 hd HPC H6
          go_wp2_with fail
          go_end0
          exact ⟨vp7, rfl, by rw [HX.out]; exact H7.out.1, H7.out.2.1, H7.out.2.2.1⟩
      · have HX : Hid (R = s.reset) := Lib.hid (by rw [← HR.out]; exact answered_rst HF2.out HY.out (by rw [hasF_of (v := 8) (by rw [HFL.out]; exact z8)]; rfl))
        have HRC := Lib.hid (fun (W : World) (h : TkAt N w k vp p A n c g s vp W) => reset_calls h.1)
        go_quiet (fail)
        go_wp2_with fail
        refine (HRC.out _ (H1.out.ext HL.out (ext_drewN (Below.refl _ _) _))).mono ?_
        rintro e w2 ⟨rfl, k1, k2⟩
        have H2 := Lib.hid ((H1.out.ext HL.out (ext_drewN (Below.refl _ _) _)).step HL.out k1 k2 (After.refl _ _))
        clear k1 k2
        go_wp2_with fail
        go_end0
        exact ⟨vp, rfl, by rw [HX.out]; exact H2.out.1, H2.out.2.1, H2.out.2.2.1⟩
    · have HX : Hid (R = s.refuse p) := Lib.hid (by rw [← HR.out]; exact answered_no HF2.out (by rw [HACK.out, HI1.out]; exact hy))
      have HRC := Lib.hid (fun (W : World) (h : TkAt N w k vp p A n c g s vp W) => refuse_calls h.1 (h.hN HN.out) (HOK.out.bd (by have := HPK.out; omega)) p A n c HL.out (by omega) HI.out.seq HI.out.ack)
      have eya : ((ak : Int) == (i1 : Int)) = false := beq_eq_false_iff_ne.2 (by omega)
      simp only [Pk.cs] at HRC
      rw [HFL.out, HACK.out] at HRC
      clear hy
      go_quiet (fail)
      go_wp2_with fail
      refine (HRC.out _ (H1.out.ext HL.out (ext_drewN (Below.refl _ _) _))).mono ?_
      rintro e w2 hd
      obtain ⟨rfl, vp2, h2⟩ := (H1.out.ext HL.out (ext_drewN (Below.refl _ _) _)).stepD HL.out hd
      have H2 := Lib.hid h2
      clear h2 hd
      go_wp2_with fail
      go_end0
      exact ⟨vp2, rfl, by rw [HX.out]; exact H2.out.1, H2.out.2.1, H2.out.2.2.1⟩
end
end Go.Proofs.Ytjhnnnklfhbebaa
namespace Go.Proofs.Ytjhnnnklfhbebaa
open Go.RowKit
set_option linter.unusedVariables false
set_option linter.unusedSimpArgs false
section
variable {N : Nat → Prop} {w : World} {k : Nat} {s : TS} {vp : Value}
theorem takes_rst {s : TS} {p : Pk} (h8 : hasF p 8 = true) : s.takes p = if s.state ≠ 4 ∧ TS.inN p.seq (s.rnum s.rcv) (s.window + 3) = true then s.reset else s := by
  unfold TS.takes
  rw [if_pos h8]
theorem takes_no8 {s : TS} {p : Pk} (h8 : hasF p 8 = false) : s.takes p = if hasF p 1 = true ∧ s.state = 2 ∧ p.seq = s.irs ∧ hasF p 2 = false then s.syn else if hasF p 1 = true then s.ack else if hasF p 2 = false then s else if s.state = 2 ∧ p.ack ≠ s.num 1 then s.refuse p else s.talk p := by
  unfold TS.takes
  rw [if_neg (fun e => by rw [h8] at e; cases e)]
set_option maxRecDepth 100000 in
set_option maxHeartbeats 2000000 in
theorem takes_calls (h : ConnIs N w k s vp) (hN : ∀ b, N b → b < w.heap.size) (hb : s.Ok) (hq : s.Qu) (hs : s.state = 2 ∨ s.state = 3 ∨ s.state = 4) (hpk : s.pack.length ≤ 600000) (hsn : s.sent ≤ 1000000000000)
    (p : Pk) (A : Option Addr) (n c : Nat) (hn : p.data.length = n) (hnc : n ≤ c) (hok : okP p = true) (hi : TS.PkIn p) (hr : RB w A p.data) (hAk : 0 < n → ∀ b o, A = some ⟨b, o, none⟩ → b ≠ k ∧ vp.ownBlock ≠ some b) :
    Calls Try.prog 48 #[.pointer (some ⟨k, 0, none⟩), .agg (p.cs A n c).toArray] w (Did N w k vp (s.takes p) (.tuple #[])) := by
  have hl := (okP_rows hok).2.2.2.2
  rw [hn] at hl
  have H := Lib.hid h
  have HN := Lib.hid hN
  have HOK := Lib.hid hb
  have HQ := Lib.hid hq
  have HST := Lib.hid hs
  have HPK := Lib.hid hpk
  have HSN := Lib.hid hsn
  have HL := Lib.hid hn
  have HOP := Lib.hid hok
  have HI := Lib.hid hi
  have HRB := Lib.hid hr
  have HAK := Lib.hid hAk
  have hkl := h.lt.1
  obtain ⟨R, hR⟩ : ∃ R, s.takes p = R := ⟨_, rfl⟩
  have HR := Lib.hid hR
  rw [hR]
  clear h hN hb hq hs hpk hsn hn hok hi hr hAk hR
  simp only [Pk.cs]
  go_enter Try.func48, Try.ntmps48
  go_upto_region 2 with fail
  obtain ⟨g, hg⟩ : ∃ g, w.heap.size = g := ⟨_, rfl⟩
  have hkg : k < g := by omega
  rw [hg]
  refine name_world (fun W => TkAt N w k vp p A n c g s vp W ∧ w.heap.size ≤ W.heap.size) (by
    have hb : Below w.heap.size w (w.alloc (.cells (p.cs A n c).toArray 32)) := ext_alloc _ _
    refine ⟨⟨H.out.ext hb, Chg.below hb, After.refl _ _, hg ▸ BK.new _ _ _, HRB.out.ext hb, by omega, fun e => ?_, HAK.out⟩, hb.size⟩
    have := H.out.lt.2 _ e
    omega) ?_
  rintro w1 ⟨h1, hsz⟩
  obtain ⟨q0, q1, q2, q3, q4, q5, q6, q7, q8, q9, q10⟩ := h1.2.2.2.cells
  have c5 := h1.1.cellH 5 (by decide) (fun _ _ => rfl)
  have c14 := h1.1.cellH 14 (by decide) (fun _ _ => rfl)
  have c15 := h1.1.cellH 15 (by decide) (fun _ _ => rfl)
  have c2069 := h1.1.cellT 4 (fun _ _ => rfl) 2069 rfl
  have hkl1 := h1.1.lt.1
  obtain ⟨st, hst⟩ : ∃ st, s.state = st := ⟨_, rfl⟩
  rw [hst] at c2069
  have HSTE := Lib.hid hst
  obtain ⟨rv, hrv⟩ : ∃ rv, s.rnum s.rcv = rv := ⟨_, rfl⟩
  have hr32 : rv < 4294967296 := by rw [← hrv]; exact m32_lt _
  rw [hrv] at c15
  obtain ⟨ir, hir⟩ : ∃ ir, s.irs = ir := ⟨_, rfl⟩
  rw [hir] at c14
  obtain ⟨q, hq⟩ : ∃ q, p.seq = q := ⟨_, rfl⟩
  have hq32 : q < 4294967296 := by rw [← hq]; exact HI.out.seq
  rw [hq] at q4
  obtain ⟨wd, hwd⟩ : ∃ wd, s.window = wd := ⟨_, rfl⟩
  have hw2 : wd ≤ 1024 := by rw [← hwd]; exact TS.window_le s
  obtain ⟨I, hI⟩ : ∃ I, TS.inN q rv (wd + 3) = I := ⟨_, rfl⟩
  obtain ⟨wt, hwt⟩ : ∃ wt, wd + 3 = wt := ⟨_, rfl⟩
  have hw3 : IntKind.i64.wrap ((wd : Int) + 3) = (wt : Int) := by rw [IntWalk.i64_in _ (by omega)]; omega
  rw [hwt] at hI
  have HIN := Lib.hid (in_calls q rv wt hq32 hr32 (by omega))
  rw [hI] at HIN
  have HWC := Lib.hid (fun (m : Nat) => window_calls (w1.drewN m) k s vp (h1.1.ext (ext_drewN (Below.refl _ _) m)) HOK.out.inn)
  rw [hwd] at HWC
  have HINE : Hid (TS.inN p.seq (s.rnum s.rcv) (s.window + 3) = I) := Lib.hid (by rw [hq, hrv, hwd, hwt]; exact hI)
  have H1 := Lib.hid h1
  have HS1 := Lib.hid hsz
  obtain ⟨fl, hfl⟩ : ∃ fl, p.fl = fl := ⟨_, rfl⟩
  obtain ⟨ak, hak⟩ : ∃ ak, p.ack = ak := ⟨_, rfl⟩
  rw [hfl] at q6
  rw [hak] at q5
  have HFL := Lib.hid hfl
  have HACK := Lib.hid hak
  have HSEQ := Lib.hid hq
  have HIRS := Lib.hid hir
  have hak32 := HI.out.ack
  rw [hak] at hak32
  obtain ⟨i1, hi1⟩ : ∃ i1, s.num 1 = i1 := ⟨_, rfl⟩
  have hi32 : i1 < 4294967296 := by rw [← hi1]; exact m32_lt _
  have hwi : IntKind.u32.wrap ((s.iss : Int) + 1) = (i1 : Int) := by rw [← hi1, show (s.iss : Int) + 1 = ((s.iss + 1 : Nat) : Int) from rfl, wrap_u32_nat]; rfl
  have HI1 := Lib.hid hi1
  have HAC := Lib.hid (fun (W : World) (h : TkAt N w k vp p A n c g s vp W) => ack_calls h.1 (h.hN HN.out) (HOK.out.bd (by have := HPK.out; omega)))
  have HSC := Lib.hid (fun (W : World) (h : TkAt N w k vp p A n c g s vp W) => syn_calls h.1 (h.hN HN.out) (HOK.out.bd (by have := HPK.out; omega)))
  have HRC := Lib.hid (fun (W : World) (h : TkAt N w k vp p A n c g s vp W) => reset_calls h.1)
  have HRF := Lib.hid (fun (W : World) (h : TkAt N w k vp p A n c g s vp W) => refuse_calls h.1 (h.hN HN.out) (HOK.out.bd (by have := HPK.out; omega)) p A n c HL.out (by omega) HI.out.seq HI.out.ack)
  have HTK := Lib.hid (fun (W : World) (h : TkAt N w k vp p A n c g s vp W) => talk_calls h.1 (h.hN HN.out) HOK.out HQ.out HST.out HPK.out HSN.out p A n c HL.out hnc HOP.out HI.out h.2.2.2.2.1 h.2.2.2.2.2.2.2)
  simp only [Pk.cs] at HRF HTK
  rw [HFL.out, HACK.out, HSEQ.out] at HRF HTK
  clear h1 hg hfl hak hi1 hsz hst hrv hir hq hwd hI hwt

  rcases fbit8 fl with z8 | z8
  · have HF8 : Hid (hasF p 8 = false) := Lib.hid (by rw [hasF_of (v := 0) (by rw [HFL.out]; exact z8)]; rfl)
    have HE : Hid (R = if hasF p 1 = true ∧ s.state = 2 ∧ p.seq = s.irs ∧ hasF p 2 = false then s.syn else if hasF p 1 = true then s.ack else if hasF p 2 = false then s else if s.state = 2 ∧ p.ack ≠ s.num 1 then s.refuse p else s.talk p) := Lib.hid (by rw [← HR.out]; exact takes_no8 HF8.out)
    rcases fbit1 fl with z1 | z1
    · have HF1 : Hid (hasF p 1 = false) := Lib.hid (by rw [hasF_of (v := 0) (by rw [HFL.out]; exact z1)]; rfl)
      have HE2 : Hid (R = if hasF p 2 = false then s else if s.state = 2 ∧ p.ack ≠ s.num 1 then s.refuse p else s.talk p) := Lib.hid (by rw [HE.out, if_neg (fun e => by rw [HF1.out] at e; cases e.1), if_neg (fun e => by rw [HF1.out] at e; cases e)])
      go_upto_region 5 with fail
      rcases fbit2 fl with z2 | z2
      · have HF2 : Hid (hasF p 2 = false) := Lib.hid (by rw [hasF_of (v := 0) (by rw [HFL.out]; exact z2)]; rfl)
        go_quiet (fail)
        have HW := Lib.hid (H1.out.ext HL.out (ext_drewN (Below.refl _ _) 1))
        have HX : Hid (R = s) := Lib.hid (by rw [HE2.out, if_pos HF2.out])
        go_wp2_with fail
        go_end0
        exact ⟨vp, rfl, by rw [HX.out]; exact H1.out.1.ext (ext_drewN (Below.refl _ _) _), H1.out.2.1.trans (Chg.below (ext_drewN (Below.refl _ _) _)) (After.refl _ _), H1.out.2.2.1⟩
      · have HF2 : Hid (hasF p 2 = true) := Lib.hid (by rw [hasF_of (v := 2) (by rw [HFL.out]; exact z2)]; rfl)
        have HE3 : Hid (R = if s.state = 2 ∧ p.ack ≠ s.num 1 then s.refuse p else s.talk p) := Lib.hid (by rw [HE2.out, if_neg (fun e => by rw [HF2.out] at e; cases e)])
        go_quiet (fail)
        go_upto_region 10 with fail
        clear q0 q1 q2 q3 q4 q5 q6 q7 q8 q9 q10 c2069 c5 hkl1
        refine name_world (fun W => TkAt N w k vp p A n c g s vp W) (H1.out.ext HL.out (ext_drewN (Below.refl _ _) _)) ?_
        intro w2 h2
        have H2 := Lib.hid h2
        have HW := H2
        obtain ⟨q0, q1, q2, q3, q4, q5, q6, q7, q8, q9, q10⟩ := h2.2.2.2.cells
        rw [HFL.out] at q6
        rw [HACK.out] at q5
        rw [HSEQ.out] at q4
        have c5 := h2.1.cellH 5 (by decide) (fun _ _ => rfl)
        have c2069 := h2.1.cellT 4 (fun _ _ => rfl) 2069 rfl
        rw [HSTE.out] at c2069
        have hkl1 := h2.1.lt.1
        clear h2
        by_cases h2 : st = 2
        · subst h2
          by_cases hy : ak = i1
          · have HX : Hid (R = s.talk p) := Lib.hid (by rw [HE3.out, if_neg (fun e => e.2 (by rw [HACK.out, HI1.out, hy]))])
            subst hy
            go_quiet (fail)
            have HW := H2
            skip
            go_wp2_with fail
            refine (HTK.out _ (HW.out.ext HL.out (ext_drewN (Below.refl _ _) _))).mono ?_
            rintro e w9 hd
            obtain ⟨rfl, vp9, h9⟩ := (HW.out.ext HL.out (ext_drewN (Below.refl _ _) _)).stepD HL.out hd
            have H9 := Lib.hid h9
            clear h9 hd
            go_wp2_with fail
            go_end0
            exact ⟨vp9, rfl, by rw [HX.out]; exact H9.out.1, H9.out.2.1, H9.out.2.2.1⟩
          · have HX : Hid (R = s.refuse p) := Lib.hid (by rw [HE3.out, if_pos ⟨HSTE.out, by rw [HACK.out, HI1.out]; exact hy⟩])
            have eya : ((ak : Int) != (i1 : Int)) = true := bne_iff_ne.2 (by omega)
            clear hy
            go_quiet (fail)
            have HW := H2
            try clear eya
            go_wp2_with fail
            refine (HRF.out _ (HW.out.ext HL.out (ext_drewN (Below.refl _ _) _))).mono ?_
            rintro e w9 hd
            obtain ⟨rfl, vp9, h9⟩ := (HW.out.ext HL.out (ext_drewN (Below.refl _ _) _)).stepD HL.out hd
            have H9 := Lib.hid h9
            clear h9 hd
            go_wp2_with fail
            go_end0
            exact ⟨vp9, rfl, by rw [HX.out]; exact H9.out.1, H9.out.2.1, H9.out.2.2.1⟩
        · have HX : Hid (R = s.talk p) := Lib.hid (by rw [HE3.out, if_neg (fun e => h2 (HSTE.out.symm.trans e.1))])
          have h2i : ((st : Int) == 2) = false := beq_eq_false_iff_ne.2 (by omega)
          go_quiet (fail)
          have HW := H2
          try clear h2
          go_wp2_with fail
          refine (HTK.out _ (HW.out.ext HL.out (ext_drewN (Below.refl _ _) _))).mono ?_
          rintro e w9 hd
          obtain ⟨rfl, vp9, h9⟩ := (HW.out.ext HL.out (ext_drewN (Below.refl _ _) _)).stepD HL.out hd
          have H9 := Lib.hid h9
          clear h9 hd
          go_wp2_with fail
          go_end0
          exact ⟨vp9, rfl, by rw [HX.out]; exact H9.out.1, H9.out.2.1, H9.out.2.2.1⟩
    · have HF1 : Hid (hasF p 1 = true) := Lib.hid (by rw [hasF_of (v := 1) (by rw [HFL.out]; exact z1)]; rfl)
      go_upto_region 5 with fail
      by_cases h2 : st = 2
      · subst h2
        by_cases hqi : q = ir
        · subst hqi
          rcases fbit2 fl with z2 | z2
          · have HX : Hid (R = s.syn) := Lib.hid (by rw [HE.out, if_pos ⟨HF1.out, HSTE.out, HSEQ.out.trans HIRS.out.symm, by rw [hasF_of (v := 0) (by rw [HFL.out]; exact z2)]; rfl⟩])
            go_quiet (fail)
            have HW := H1
            try clear c14
            go_wp2_with fail
            refine (HSC.out _ (HW.out.ext HL.out (ext_drewN (Below.refl _ _) _))).mono ?_
            rintro e w9 hd
            obtain ⟨rfl, vp9, h9⟩ := (HW.out.ext HL.out (ext_drewN (Below.refl _ _) _)).stepD HL.out hd
            have H9 := Lib.hid h9
            clear h9 hd
            go_wp2_with fail
            go_end0
            exact ⟨vp9, rfl, by rw [HX.out]; exact H9.out.1, H9.out.2.1, H9.out.2.2.1⟩
          · have HX : Hid (R = s.ack) := Lib.hid (by rw [HE.out, if_neg (fun e => by have := e.2.2.2; rw [hasF_of (v := 2) (by rw [HFL.out]; exact z2)] at this; cases this), if_pos HF1.out])
            go_quiet (fail)
            have HW := H1
            try clear c14
            go_wp2_with fail
            refine (HAC.out _ (HW.out.ext HL.out (ext_drewN (Below.refl _ _) _))).mono ?_
            rintro e w9 hd
            obtain ⟨rfl, vp9, h9⟩ := (HW.out.ext HL.out (ext_drewN (Below.refl _ _) _)).stepD HL.out hd
            have H9 := Lib.hid h9
            clear h9 hd
            go_wp2_with fail
            go_end0
            exact ⟨vp9, rfl, by rw [HX.out]; exact H9.out.1, H9.out.2.1, H9.out.2.2.1⟩
        · have HX : Hid (R = s.ack) := Lib.hid (by rw [HE.out, if_neg (fun e => hqi (HSEQ.out.symm.trans (e.2.2.1.trans HIRS.out))), if_pos HF1.out])
          have eqi : ((q : Int) == (ir : Int)) = false := beq_eq_false_iff_ne.2 (by omega)
          clear hqi
          go_quiet (fail)
          have HW := H1
          try clear c14
          go_wp2_with fail
          refine (HAC.out _ (HW.out.ext HL.out (ext_drewN (Below.refl _ _) _))).mono ?_
          rintro e w9 hd
          obtain ⟨rfl, vp9, h9⟩ := (HW.out.ext HL.out (ext_drewN (Below.refl _ _) _)).stepD HL.out hd
          have H9 := Lib.hid h9
          clear h9 hd
          go_wp2_with fail
          go_end0
          exact ⟨vp9, rfl, by rw [HX.out]; exact H9.out.1, H9.out.2.1, H9.out.2.2.1⟩
      · have HX : Hid (R = s.ack) := Lib.hid (by rw [HE.out, if_neg (fun e => h2 (HSTE.out.symm.trans e.2.1)), if_pos HF1.out])
        have h2i : ((st : Int) == 2) = false := beq_eq_false_iff_ne.2 (by omega)
        go_quiet (fail)
        have HW := H1
        try clear c14
        go_wp2_with fail
        refine (HAC.out _ (HW.out.ext HL.out (ext_drewN (Below.refl _ _) _))).mono ?_
        rintro e w9 hd
        obtain ⟨rfl, vp9, h9⟩ := (HW.out.ext HL.out (ext_drewN (Below.refl _ _) _)).stepD HL.out hd
        have H9 := Lib.hid h9
        clear h9 hd
        go_wp2_with fail
        go_end0
        exact ⟨vp9, rfl, by rw [HX.out]; exact H9.out.1, H9.out.2.1, H9.out.2.2.1⟩
  · have HE : Hid (R = if s.state ≠ 4 ∧ TS.inN p.seq (s.rnum s.rcv) (s.window + 3) = true then s.reset else s) := Lib.hid (by rw [← HR.out]; exact takes_rst (by rw [hasF_of (v := 8) (by rw [HFL.out]; exact z8)]; rfl))
    go_upto_region 3 with fail
    by_cases h4 : st = 4
    · subst h4
      have HX : Hid (R = s) := Lib.hid (by rw [HE.out, if_neg (fun e => e.1 HSTE.out)])
      go_quiet (first | (go_at_call 78; refine Calls.quiet_of_same ((HWC.out _).mono fun _ _ k => ⟨k.1, k.2.symm⟩)) | (go_at_call 85; refine Calls.quiet_of_same ((HIN.out _).mono fun _ _ k => ⟨k.1, k.2.symm⟩)))
      go_wp2_with fail
      go_end0
      exact ⟨vp, rfl, by rw [HX.out]; exact H1.out.1.ext (ext_drewN (Below.refl _ _) _), H1.out.2.1.trans (Chg.below (ext_drewN (Below.refl _ _) _)) (After.refl _ _), H1.out.2.2.1⟩
    · have h4i : ((st : Int) != 4) = true := bne_iff_ne.2 (by omega)
      cases I with
      | false =>
        have HX : Hid (R = s) := Lib.hid (by rw [HE.out, if_neg (fun e => by have := e.2; rw [HINE.out] at this; cases this)])
        go_quiet (first | (go_at_call 78; refine Calls.quiet_of_same ((HWC.out _).mono fun _ _ k => ⟨k.1, k.2.symm⟩)) | (go_at_call 85; refine Calls.quiet_of_same ((HIN.out _).mono fun _ _ k => ⟨k.1, k.2.symm⟩)))
        go_wp2_with fail
        go_end0
        exact ⟨vp, rfl, by rw [HX.out]; exact H1.out.1.ext (ext_drewN (Below.refl _ _) _), H1.out.2.1.trans (Chg.below (ext_drewN (Below.refl _ _) _)) (After.refl _ _), H1.out.2.2.1⟩
      | true =>
        have HX : Hid (R = s.reset) := Lib.hid (by rw [HE.out, if_pos ⟨fun e => h4 (HSTE.out.symm.trans e), HINE.out⟩])
        go_quiet (first | (go_at_call 78; refine Calls.quiet_of_same ((HWC.out _).mono fun _ _ k => ⟨k.1, k.2.symm⟩)) | (go_at_call 85; refine Calls.quiet_of_same ((HIN.out _).mono fun _ _ k => ⟨k.1, k.2.symm⟩)))
        go_wp2_with fail
        refine (HRC.out _ (H1.out.ext HL.out (ext_drewN (Below.refl _ _) _))).mono ?_
        rintro e w2 ⟨rfl, k1, k2⟩
        have H2 := Lib.hid ((H1.out.ext HL.out (ext_drewN (Below.refl _ _) _)).step HL.out k1 k2 (After.refl _ _))
        clear k1 k2
        go_wp2_with fail
        go_end0
        exact ⟨vp, rfl, by rw [HX.out]; exact H2.out.1, H2.out.2.1, H2.out.2.2.1⟩
end
end Go.Proofs.Ytjhnnnklfhbebaa
namespace Go.Proofs.Ytjhnnnklfhbebaa
open Go.RowKit
set_option linter.unusedVariables false
set_option linter.unusedSimpArgs false
section
variable {N : Nat → Prop} {w : World} {k : Nat} {s : TS} {vp : Value}
theorem took_take (h : s.Ok) (hq : s.Qu) {p : Pk} (hi : TS.PkIn p) : s.Took (s.take p) := by
  unfold TS.take
  split
  · exact .self h hq
  · rename_i hc
    have hok : okP p = true := by
      cases e : okP p with
      | true => rfl
      | false => exact absurd (.inr e) hc
    have h0 : s.state ≠ 0 := fun e => hc (.inl e)
    have hst := h.st
    dsimp only
    split
    · have t := TS.Took.refuse h.idle0 hq p
      exact ⟨t.ok, t.qu, t.pre, t.sent, t.got, t.st⟩
    · split
      · rename_i h1
        have t := TS.took_answered h.idle0 hq h1 hok hi
        exact ⟨t.ok, t.qu, t.pre, t.sent, t.got, t.st⟩
      · have t := TS.took_takes h.idle0 hq (show s.state = 2 ∨ s.state = 3 ∨ s.state = 4 by omega) hok hi
        exact ⟨t.ok, t.qu, t.pre, t.sent, t.got, t.st⟩
set_option maxRecDepth 100000 in
set_option maxHeartbeats 2000000 in
theorem take_calls (h : ConnIs N w k s vp) (hN : ∀ b, N b → b < w.heap.size) (hb : s.Ok) (hq : s.Qu) (hpk : s.pack.length ≤ 600000) (hsn : s.sent ≤ 1000000000000)
    (p : Pk) (A : Option Addr) (n c : Nat) (hn : p.data.length = n) (hnc : n ≤ c) (hi : TS.PkIn p) (hr : RB w A p.data) (hAk : 0 < n → ∀ b o, A = some ⟨b, o, none⟩ → b ≠ k ∧ vp.ownBlock ≠ some b) :
    Calls Try.prog 17 #[.pointer (some ⟨k, 0, none⟩), .agg (p.cs A n c).toArray] w (Did N w k vp (s.take p) (.tuple #[])) := by
  have H := Lib.hid h
  have HN := Lib.hid hN
  have HOK := Lib.hid hb
  have HQ := Lib.hid hq
  have HPK := Lib.hid hpk
  have HSN := Lib.hid hsn
  have HL := Lib.hid hn
  have HI := Lib.hid hi
  have HRB := Lib.hid hr
  have HAK := Lib.hid hAk
  have hkl := h.lt.1
  obtain ⟨R, hR⟩ : ∃ R, s.take p = R := ⟨_, rfl⟩
  have HR := Lib.hid hR
  rw [hR]
  obtain ⟨st, hst⟩ : ∃ st, s.state = st := ⟨_, rfl⟩
  have hst5 : st ≤ 5 := hst ▸ hb.st
  have HSTE := Lib.hid hst
  have HCH := Lib.hid (check_n p A n c)
  obtain ⟨O, hO⟩ : ∃ O, okN p n = O := ⟨_, rfl⟩
  rw [hO] at HCH
  have HO : Hid (okP p = O) := Lib.hid (by unfold okP; rw [hn]; exact hO)
  clear h hN hb hq hpk hsn hn hi hr hAk hR hst hO
  simp only [Pk.cs] at HCH ⊢
  go_enter Try.func17, Try.ntmps17
  go_upto_region 1 with fail
  obtain ⟨g, hg⟩ : ∃ g, w.heap.size = g := ⟨_, rfl⟩
  have hkg : k < g := by omega
  rw [hg]
  refine name_world (fun W => TkAt N w k vp p A n c g s vp W ∧ w.heap.size ≤ W.heap.size) (by
    have hb : Below w.heap.size w (w.alloc (.cells (p.cs A n c).toArray 32)) := ext_alloc _ _
    refine ⟨⟨H.out.ext hb, Chg.below hb, After.refl _ _, hg ▸ BK.new _ _ _, HRB.out.ext hb, by omega, fun e => ?_, HAK.out⟩, hb.size⟩
    have := H.out.lt.2 _ e
    omega) ?_
  rintro w1 ⟨h1, hsz⟩
  have HMC := Lib.hid (made_calls w1 k s vp h1.1)
  rw [HSTE.out] at HMC
  have H1 := Lib.hid h1
  have hkl1 := h1.1.lt.1
  obtain ⟨q0, q1, q2, q3, q4, q5, q6, q7, q8, q9, q10⟩ := h1.2.2.2.cells
  clear h1 hg hsz
  go_wp2_with fail
  refine HMC.out.mono ?_
  rintro e w' ⟨rfl, rfl⟩
  by_cases h0 : st = 0
  · have HX : Hid (R = s) := Lib.hid (by rw [← HR.out]; unfold TS.take; exact if_pos (.inl (HSTE.out.trans h0)))
    subst h0
    go_wp2_with fail
    go_end0
    exact ⟨vp, rfl, by rw [HX.out]; exact H1.out.1, H1.out.2.1, H1.out.2.2.1⟩
  · have hd0 : decide (st ≠ 0) = true := decide_eq_true h0
    rw [hd0]
    go_wp2_with fail
    refine (HCH.out _).mono ?_
    rintro e w2 ⟨rfl, hb2⟩
    have h2 := H1.out.ext HL.out hb2
    clear q0 q1 q2 q3 q4 q5 q6 q7 q8 q9 q10 H1 hb2 hkl1 HMC
    have H2 := Lib.hid h2
    cases O with
    | false =>
      have HX : Hid (R = s) := Lib.hid (by rw [← HR.out]; unfold TS.take; exact if_pos (.inr HO.out))
      clear h2
      go_wp2_with fail
      go_end0
      exact ⟨vp, rfl, by rw [HX.out]; exact H2.out.1, H2.out.2.1, H2.out.2.2.1⟩
    | true =>
      have HX : Hid (R = if st = 5 then ({ s with idle := 0 } : TS).refuse p else if st = 1 then ({ s with idle := 0 } : TS).answered p else ({ s with idle := 0 } : TS).takes p) := Lib.hid (by
        rw [← HR.out]
        unfold TS.take
        rw [if_neg (fun e => e.elim (fun e => h0 (HSTE.out.symm.trans e)) (fun e => by rw [HO.out] at e; cases e)), HSTE.out])
      have c2072 := h2.1.cellT 7 (fun _ _ => rfl) 2072 rfl
      have f2072 := h2.1.frozen 2072
      have hkl2 := h2.1.lt.1
      have hl : n ≤ 128 := by have := (okP_rows HO.out).2.2.2.2; rw [HL.out] at this; exact this
      have HS3 : Hid (TkAt N w k vp p A n c g { s with idle := 0 } vp (w2.setCell ⟨k, 2072, none⟩ (.int .i64 0))) := Lib.hid (h2.step HL.out (h2.1.setT { s with idle := 0 } 7 2072 rfl (.int .i64 0) (fun _ _ => rfl) (fun _ _ => rfl) rfl rfl rfl rfl (fun e => ⟨e, rfl⟩)) (Chg.grown (grown_setCell _ _ _ _) (.inl rfl)) (After.refl _ _))
      clear h2
      go_upto_region 3 with fail
      refine name_world (fun W => TkAt N w k vp p A n c g { s with idle := 0 } vp W) HS3.out ?_
      intro w3 h3
      clear c2072 f2072 hkl2 H2 HS3
      obtain ⟨s3, hs3⟩ : ∃ s3, ({ s with idle := 0 } : TS) = s3 := ⟨_, rfl⟩
      rw [hs3] at h3 HX
      have HOK3 : Hid (s3.Ok ∧ s3.Qu ∧ s3.pack.length ≤ 600000 ∧ s3.sent ≤ 1000000000000 ∧ s3.state = st) := Lib.hid (by rw [← hs3]; exact ⟨HOK.out.idle0, HQ.out, HPK.out, HSN.out, HSTE.out⟩)
      have c2069 := h3.1.cellT 4 (fun _ _ => rfl) 2069 rfl
      rw [HOK3.out.2.2.2.2] at c2069
      obtain ⟨q0, q1, q2, q3, q4, q5, q6, q7, q8, q9, q10⟩ := h3.2.2.2.cells
      have hkl3 := h3.1.lt.1
      have H3 := Lib.hid h3
      clear h3 hs3
      by_cases h5 : st = 5
      · subst h5
        have HX2 : Hid (R = s3.refuse p) := Lib.hid (by rw [HX.out, if_pos rfl])
        have HRF := Lib.hid (refuse_calls H3.out.1 (H3.out.hN HN.out) (HOK3.out.1.bd (by have := HOK3.out.2.2.1; omega)) p A n c HL.out (by omega) HI.out.seq HI.out.ack)
        simp only [Pk.cs] at HRF
        go_wp2_with fail
        refine HRF.out.mono ?_
        rintro e w9 hd
        obtain ⟨rfl, vp9, h9⟩ := H3.out.stepD HL.out hd
        have H9 := Lib.hid h9
        clear h9 hd
        go_wp2_with fail
        go_end0
        exact ⟨vp9, rfl, by rw [HX2.out]; exact H9.out.1, H9.out.2.1, H9.out.2.2.1⟩
      · have h5i : ((st : Int) == 5) = false := beq_eq_false_iff_ne.2 (by omega)
        by_cases h1 : st = 1
        · subst h1
          have HX2 : Hid (R = s3.answered p) := Lib.hid (by rw [HX.out, if_neg h5, if_pos rfl])
          have HRF := Lib.hid (answered_calls H3.out.1 (H3.out.hN HN.out) HOK3.out.1 HOK3.out.2.1 HOK3.out.2.2.2.2 HOK3.out.2.2.1 p A n c HL.out HO.out HI.out H3.out.2.2.2.2.1 H3.out.2.2.2.2.2.2.2)
          simp only [Pk.cs] at HRF
          go_wp2_with fail
          refine HRF.out.mono ?_
          rintro e w9 hd
          obtain ⟨rfl, vp9, h9⟩ := H3.out.stepD HL.out hd
          have H9 := Lib.hid h9
          clear h9 hd
          go_wp2_with fail
          go_end0
          exact ⟨vp9, rfl, by rw [HX2.out]; exact H9.out.1, H9.out.2.1, H9.out.2.2.1⟩
        · have h1i : ((st : Int) == 1) = false := beq_eq_false_iff_ne.2 (by omega)
          have HX2 : Hid (R = s3.takes p) := Lib.hid (by rw [HX.out, if_neg h5, if_neg h1])
          have HRF := Lib.hid (takes_calls H3.out.1 (H3.out.hN HN.out) HOK3.out.1 HOK3.out.2.1 (by have := HOK3.out.2.2.2.2; omega) HOK3.out.2.2.1 HOK3.out.2.2.2.1 p A n c HL.out hnc HO.out HI.out H3.out.2.2.2.2.1 H3.out.2.2.2.2.2.2.2)
          simp only [Pk.cs] at HRF
          go_wp2_with fail
          refine HRF.out.mono ?_
          rintro e w9 hd
          obtain ⟨rfl, vp9, h9⟩ := H3.out.stepD HL.out hd
          have H9 := Lib.hid h9
          clear h9 hd
          go_wp2_with fail
          go_end0
          exact ⟨vp9, rfl, by rw [HX2.out]; exact H9.out.1, H9.out.2.1, H9.out.2.2.1⟩
end
end Go.Proofs.Ytjhnnnklfhbebaa
