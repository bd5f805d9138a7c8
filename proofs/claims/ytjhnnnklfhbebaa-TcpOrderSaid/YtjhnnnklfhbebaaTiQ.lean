/- flumelaw13's pair: what is read is a beginning of what was written (plain). -/
import Derived.Test.YtjhnnnklfhbebaaTiP
namespace Go.Proofs.Ytjhnnnklfhbebaa
open Go.RowKit
set_option linter.unusedVariables false
set_option linter.unusedSimpArgs false
namespace TS
variable {s : TS}
theorem sh_push (s : TS) : s.push.shut = s.shut := by
  obtain ⟨n, t, ps, e⟩ := push_shape s
  rw [e]
theorem sh_again (s : TS) : s.again.shut = s.shut := by
  obtain ⟨n, t, ps, e⟩ := again_shape s
  rw [e]
theorem sh_syn (s : TS) : s.syn.shut = s.shut := by
  unfold TS.syn
  split <;> rfl
theorem sh_refuse (s : TS) (p : Pk) : (s.refuse p).shut = s.shut := by
  unfold TS.refuse
  split <;> rfl
theorem sh_abort (s : TS) : s.abort.shut = s.shut := by
  unfold TS.abort
  split
  · rfl
  · split <;> rfl
theorem sh_late (s : TS) : s.late.shut = s.shut := by
  unfold TS.late
  dsimp only
  split
  · exact sh_abort _
  · split
    · exact sh_again _
    · exact sh_syn _
theorem sh_tick (s : TS) : s.tick.shut = s.shut := by
  unfold TS.tick
  split
  · rfl
  · dsimp only
    obtain ⟨t, ht⟩ : ∃ t, (if s.nxt = s.una ∧ s.out.length = 0 then 0 else s.timer + 1) = t := ⟨_, rfl⟩
    rw [ht]
    split
    · exact sh_abort _
    · split
      · exact sh_late _
      · split <;> rfl
theorem sh_read (s : TS) (n : Int) : (s.read n).2.shut = s.shut := by
  unfold TS.read
  split
  · rfl
  · dsimp only
    split <;> rfl
theorem sh_write (s : TS) (b : List UInt8) : (s.write b).2.shut = s.shut := by
  unfold TS.write
  split
  · rfl
  · exact sh_push _
theorem wr_shut (h : s.shut = true) (b : List UInt8) : (s.write b).1 = 0 := by
  unfold TS.write
  rw [if_pos ((closed_of s).2 (.inr (.inl h)))]
theorem sh_talk (s : TS) (p : Pk) : (s.talk p).shut = s.shut := by
  rw [talk_eq]
  have h1 : s.talk1.shut = s.shut := by
    unfold TS.talk1
    split <;> rfl
  split
  · exact h1
  · split
    · exact h1
    · obtain ⟨a1, a2, a3, a4, a5, a6, a7, a8, ec⟩ := credit_shape s.talk1 p
      obtain ⟨b1, b2, b3, b4, b5, b6, eb⟩ := talk2_shape (s.talk1.credit p).2 p
      obtain ⟨ps, e, _⟩ := talk3_shape ((s.talk1.credit p).2.talk2 p) p
      have h2 : (((s.talk1.credit p).2.talk2 p).talk3 p).push.shut = s.shut := by
        rw [sh_push, e]
        show ((s.talk1.credit p).2.talk2 p).shut = s.shut
        rw [eb]
        show (s.talk1.credit p).2.shut = s.shut
        rw [ec]
        exact h1
      unfold TS.talk5
      split
      · exact h2
      · exact h2
theorem sh_takes (s : TS) (p : Pk) : (s.takes p).shut = s.shut := by
  unfold TS.takes
  split
  · split <;> rfl
  · split
    · exact sh_syn _
    · split
      · rfl
      · split
        · rfl
        · split
          · exact sh_refuse _ _
          · exact sh_talk _ _
theorem sh_answered (s : TS) (p : Pk) : (s.answered p).shut = s.shut := by
  unfold TS.answered
  dsimp only
  split
  · exact sh_refuse _ _
  · split
    · split <;> rfl
    · split
      · exact sh_push _
      · rfl
theorem sh_take (s : TS) (p : Pk) : (s.take p).shut = s.shut := by
  unfold TS.take
  split
  · rfl
  · dsimp only
    split
    · exact sh_refuse _ _
    · split
      · exact sh_answered _ _
      · exact sh_takes _ _
theorem sh_close (s : TS) (h : s.shut = true) : s.close.shut = true := by
  unfold TS.close
  split
  · rename_i hc
    rw [hc.2.2] at h
    cases h
  · exact h
end TS
/-- The first number of a side. -/
def isN (iss irs i : Nat) : Nat := if i = 0 then iss else irs
/-- What a pair keeps of the bytes. -/
structure OI (iss irs : Nat) (P : PS) : Prop where
  snd : ∀ i, i < 2 → TS.SS (isN iss irs i) (P.wr i) (P.c i)
  rcv : ∀ i, i < 2 → TS.RR (isN iss irs (1 - i)) (P.wr (1 - i)) (P.c (1 - i)).shut (P.c i) (P.rd i)
  bag : ∀ i, i < 2 → ∀ p ∈ P.bag i, SP (isN iss irs (1 - i)) (P.wr (1 - i)) (P.c (1 - i)).shut p
  num : P.iss = irs
section
variable {iss irs m : Nat} {P Q : PS}
/-- One side does something. -/
theorem OI.step (h : OI iss irs P) {i : Nat} (hi : i < 2) (eo : ∀ j, j < 2 → j ≠ i → Q.c j = P.c j ∧ Q.wr j = P.wr j ∧ Q.rd j = P.rd j) (eb : ∀ j, j < 2 → ∀ p ∈ Q.bag j, p ∈ P.bag j) (en : Q.iss = P.iss) (b : List UInt8)
    (hw : Q.wr i = P.wr i ++ b) (hs : TS.SS (isN iss irs i) (Q.wr i) (Q.c i)) (hr : TS.RR (isN iss irs (1 - i)) (P.wr (1 - i)) (P.c (1 - i)).shut (Q.c i) (Q.rd i)) (hsh : (P.c i).shut = true → (Q.c i).shut = true ∧ b = []) : OI iss irs Q := by
  obtain ⟨o1, o2, o3⟩ := eo (1 - i) (by omega) (by omega)
  have e2 : 1 - (1 - i) = i := by omega
  have hr2 := (h.rcv (1 - i) (by omega)).more (b := b) (sh' := (Q.c i).shut) (by rw [e2]; exact hsh)
  rw [e2, ← o1, ← o3, ← hw] at hr2
  refine ⟨fun j hj => ?_, fun j hj => ?_, fun j hj p hp => ?_, en.trans h.num⟩
  · by_cases e : j = i
    · subst e
      exact hs
    · obtain rfl : j = 1 - i := by omega
      rw [o1, o2]
      exact h.snd _ (by omega)
  · by_cases e : j = i
    · subst e
      rw [o1, o2]
      exact hr
    · obtain rfl : j = 1 - i := by omega
      rw [e2]
      exact hr2
  · have hp2 := h.bag j hj p (eb j hj p hp)
    by_cases e : j = i
    · subst e
      rw [o1, o2]
      exact hp2
    · obtain rfl : j = 1 - i := by omega
      rw [e2] at hp2 ⊢
      rw [hw]
      exact hp2.more hsh
theorem OI.setC (h : OI iss irs P) {i : Nat} (hi : i < 2) {s : TS} (hs : TS.SS (isN iss irs i) (P.wr i) s) (hr : TS.RR (isN iss irs (1 - i)) (P.wr (1 - i)) (P.c (1 - i)).shut s (P.rd i)) (hsh : (P.c i).shut = true → s.shut = true) : OI iss irs (P.setC i s) := by
  refine h.step hi (fun j _ hj => ⟨fset_no _ _ hj, rfl, rfl⟩) (fun j _ p hp => hp) rfl [] (List.append_nil _).symm ?_ ?_ fun e => ⟨?_, rfl⟩
  · show TS.SS _ _ (fset P.c i s i)
    rw [fset_at]
    exact hs
  · show TS.RR _ _ _ (fset P.c i s i) _
    rw [fset_at]
    exact hr
  · show (fset P.c i s i).shut = true
    rw [fset_at]
    exact hsh e
theorem OI.lose (h : OI iss irs P) {i at_ : Nat} : OI iss irs (P.lose i at_) := ⟨h.snd, h.rcv, fun j hj p hp => by
  have hp : p ∈ fset P.bag i ((P.bag i).eraseIdx at_) j := hp
  by_cases e : j = i
  · subst e
    rw [fset_at] at hp
    exact h.bag j hj p (List.mem_of_mem_eraseIdx hp)
  · rw [fset_no _ _ e] at hp
    exact h.bag j hj p hp, h.num⟩
theorem OI.outI (h : OI iss irs P) {i : Nat} (hi : i < 2) : OI iss irs (P.outI i) := by
  have ho := (h.snd i hi).outp
  have hsh : (P.c i).outp.2.shut = (P.c i).shut := by
    unfold TS.outp
    split <;> rfl
  have h1 := h.setC hi ho.1 (h.rcv i hi).outp fun e => by rw [hsh]; exact e
  refine ⟨h1.snd, h1.rcv, fun j hj => ?_, h1.num⟩
  show ∀ p ∈ fset P.bag (1 - i) (addBag (P.bag (1 - i)) (P.c i).outp.1) j, SP _ (P.wr (1 - j)) (fset P.c i (P.c i).outp.2 (1 - j)).shut p
  by_cases e : j = 1 - i
  · subst e
    rw [fset_at, show 1 - (1 - i) = i by omega, fset_at, hsh]
    refine addBag_all _ _ (fun p hp => ?_) ho.2
    have := h.bag (1 - i) hj p hp
    rw [show 1 - (1 - i) = i by omega] at this
    exact this
  · rw [fset_no _ _ e]
    have hj2 : 1 - j ≠ i := by omega
    rw [fset_no _ _ hj2]
    exact h.bag j hj
theorem OI.takes (h : OI iss irs P) (hf : PMid P m) (hz : Zok P) {i : Nat} (hi : i < 2) {x : Pk} (hx : TS.PkIn x) (hp : SP (isN iss irs (1 - i)) (P.wr (1 - i)) (P.c (1 - i)).shut x) (hm : m ≤ 900000) : OI iss irs (P.takes i x) := by
  unfold PS.takes
  split
  · rename_i hc
    obtain ⟨rfl, hc⟩ := hc
    have hw : P.wr 1 = [] := (h.snd 1 hi).z hc
    have hrd : P.rd 1 = [] := ((h.rcv 1 hi).no (by omega)).1
    have hs0 := (h.snd 1 hi)
    cases ha : TS.accept x P.iss with
    | none =>
      refine h.setC (i := 1) (s := TS.zero) hi ?_ ?_ fun e => ?_
      · rw [hw]
        exact TS.ss_zero _
      · rw [hrd]
        exact TS.rr_zero _ _ _
      · rw [← hz 1 hi hc]
        exact e
    | some s =>
      refine h.setC (i := 1) (s := s) hi ?_ ?_ fun e => ?_
      · rw [hw]
        have := TS.ss_accept ha
        rw [h.num] at this
        exact this
      · rw [hrd]
        exact TS.rr_accept hp ha
      · rw [hz 1 hi hc] at e
        cases e
  · have hf2 := hf.fine i hi
    refine h.setC hi ((h.snd i hi).take hf2.ok hf2.qu x) ((h.rcv i hi).take hf2.ok hf2.qu hp hx ?_) ?_
    · have := hf.wr (1 - i) (by omega)
      omega
    · rw [TS.sh_take]
      exact id
theorem OI.does0 (h : OI iss irs P) (hf : PGood P m) (hm : m ≤ 900000) (k : ActA) : OI iss irs (P.does0 k) := by
  obtain ⟨i, hii⟩ : ∃ i, sideN k = i := ⟨_, rfl⟩
  have hi : i < 2 := hii ▸ sideN_lt k
  have hs := h.snd i hi
  have hr := h.rcv i hi
  unfold PS.does0
  dsimp only
  rw [hii]
  split
  · exact h.setC hi hs.tick hr.tick (by rw [TS.sh_tick]; exact id)
  · split
    · have hw : fset P.wr i (P.wr i ++ k.b.take ((P.c i).write k.b).1) i = P.wr i ++ k.b.take ((P.c i).write k.b).1 := fset_at _ _ _
      refine h.step (Q := (P.setC i ((P.c i).write k.b).2).setW i (P.wr i ++ k.b.take ((P.c i).write k.b).1)) hi (fun j _ hj => ⟨fset_no _ _ hj, fset_no _ _ hj, rfl⟩) (fun j _ p hp => hp) rfl (k.b.take ((P.c i).write k.b).1) hw ?_ ?_ fun e => ⟨?_, ?_⟩
      · show TS.SS _ (fset P.wr i (P.wr i ++ k.b.take ((P.c i).write k.b).1) i) (fset P.c i ((P.c i).write k.b).2 i)
        rw [fset_at, fset_at]
        exact hs.write k.b
      · show TS.RR _ _ _ (fset P.c i ((P.c i).write k.b).2 i) _
        rw [fset_at]
        exact hr.write k.b
      · show (fset P.c i ((P.c i).write k.b).2 i).shut = true
        rw [fset_at, TS.sh_write]
        exact e
      · rw [TS.wr_shut e]
        rfl
    · split
      · refine h.step (Q := (P.setC i ((P.c i).read k.n).2).setR i (P.rd i ++ ((P.c i).read k.n).1)) hi (fun j _ hj => ⟨fset_no _ _ hj, rfl, fset_no _ _ hj⟩) (fun j _ p hp => hp) rfl [] (List.append_nil _).symm ?_ ?_ fun e => ⟨?_, rfl⟩
        · show TS.SS _ _ (fset P.c i ((P.c i).read k.n).2 i)
          rw [fset_at]
          exact hs.read k.n
        · show TS.RR _ _ _ (fset P.c i ((P.c i).read k.n).2 i) (fset P.rd i (P.rd i ++ ((P.c i).read k.n).1) i)
          rw [fset_at, fset_at]
          exact hr.read (hf.fine.fine i hi).ok.st k.n
        · show (fset P.c i ((P.c i).read k.n).2 i).shut = true
          rw [fset_at, TS.sh_read]
          exact e
      · split
        · split
          · exact h.setC hi hs.close hr.close (TS.sh_close _)
          · exact h
        · split
          · split
            · exact h.setC hi hs.abort hr.abort (by rw [TS.sh_abort]; exact id)
            · exact h
          · split
            · exact h
            · rename_i hb
              have hlt : u64N k.at_ % (P.bag i).length < (P.bag i).length := Nat.mod_lt _ (by omega)
              split
              · exact h.lose
              · have hmem : (P.bag i).getD (u64N k.at_ % (P.bag i).length) Pk.zero ∈ P.bag i := by
                  rw [List.getD_eq_getElem?_getD, List.getElem?_eq_getElem hlt]
                  exact List.getElem_mem hlt
                have hx := (hf.fine.bok i hi _ hmem).2
                have hp := h.bag i hi _ hmem
                unfold PS.comes
                split
                · exact h.takes hf.fine.toPMid hf.zok hi hx hp hm
                · exact OI.takes (P := P.lose i _) h.lose (pmid_lose hf.fine.toPMid hi) (show Zok (P.lose i _) from hf.zok) hi hx hp hm
theorem OI.does (h : OI iss irs P) (hf : PGood P m) (hm : m ≤ 900000) (k : ActA) : OI iss irs (P.does k) := ((h.does0 hf hm k).outI (by omega)).outI (by omega)
end
theorem begun_oi (iss irs : Nat) : OI iss irs (PS.begun iss irs) := by
  have h : OI iss irs (PS.asked (askS iss) irs) := by
    refine ⟨fun i hi => ?_, fun i hi => ?_, fun i hi p hp => (by cases hp), rfl⟩
    · rcases two_cases hi with rfl | rfl
      · exact TS.ss_started (.inl rfl) iss 0 0 0
      · exact TS.ss_zero irs
    · rcases two_cases hi with rfl | rfl
      · exact TS.RR.keep (s := ({ TS.zero with src := 1, dst := 2, sp := 1000, dp := 80, og := 0, state := 1 } : TS).start iss) ⟨(TS.rr_zero (isN iss irs (1 - 0)) [] false).pre, fun _ => (TS.rr_zero (isN iss irs (1 - 0)) [] false).no (Nat.zero_le _), fun _ => rfl, fun e => absurd (show (1 : Nat) = 2 ∨ (1 : Nat) = 3 ∨ (1 : Nat) = 4 from e) (by decide), fun e => absurd (show (1 : Nat) = 2 ∨ (1 : Nat) = 3 ∨ (1 : Nat) = 4 from e) (by decide)⟩ (TS.rs_syn _)
      · exact TS.rr_zero _ _ _
  exact (h.outI (i := 0) (by omega)).outI (i := 1) (by omega)
/-- What the law asks. -/
structure RightAt (P : PS) : Prop where
  pre : ∀ i, i < 2 → P.rd i = (P.wr (1 - i)).take (P.rd i).length
  all : ∀ i, i < 2 → (P.c i).state ≠ 0 → (P.c i).state ≠ 5 → (P.c i).fin = true → (P.c i).inn = [] → P.wr (1 - i) = P.rd i ∧ (P.c (1 - i)).state ≠ 0 ∧ (P.c (1 - i)).shut = true
theorem OI.right {iss irs : Nat} {P : PS} (h : OI iss irs P) (hz : Zok P) (hst : ∀ i, i < 2 → (P.c i).state ≤ 5) : RightAt P := by
  refine ⟨fun i hi => (h.rcv i hi).pre, fun i hi h0 h5 hf hin => ?_⟩
  have hr := h.rcv i hi
  have h1 : ¬ (P.c i).state ≤ 1 := fun e => by
    have := (hr.no e).2.2.2.1
    rw [hf] at this
    cases this
  have hs := hst i hi
  have hx := hr.rx (by omega)
  obtain ⟨f1, f2⟩ := hx.fin hf
  have f3 := (hx.told f1).1
  have he := hx.eq
  rw [f2, List.take_length, hin, List.append_nil] at he
  refine ⟨he.symm, fun e => ?_, f3⟩
  rw [hz (1 - i) (by omega) e] at f3
  cases f3
end Go.Proofs.Ytjhnnnklfhbebaa
