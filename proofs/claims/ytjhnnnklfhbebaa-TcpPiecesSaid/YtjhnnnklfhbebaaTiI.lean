/- What was sent and waits has been written: plain. -/
import Derived.Test.YtjhnnnklfhbebaaTiH
namespace Go.Proofs.Ytjhnnnklfhbebaa
open Go.RowKit
set_option linter.unusedVariables false
namespace TS
/-- What was sent and what waits. -/
def sum (s : TS) : Nat := s.sent + s.out.length
theorem sum_abort (s : TS) : s.abort.sum ≤ s.sum := by
  unfold TS.abort
  split
  · exact Nat.le_refl _
  · split
    · show s.sent + 0 ≤ s.sent + s.out.length
      omega
    · show s.sent + 0 ≤ s.sent + s.out.length
      omega
theorem sum_push (s : TS) : s.push.sum = s.sum := by
  obtain ⟨n, t, ps, e⟩ := push_shape s
  rw [e]
  rfl
theorem sum_again (s : TS) : s.again.sum = s.sum := by
  obtain ⟨n, t, ps, e⟩ := again_shape s
  rw [e]
  rfl
theorem sum_syn (s : TS) : s.syn.sum = s.sum := by
  unfold TS.syn
  split <;> rfl
theorem sum_late (s : TS) : s.late.sum ≤ s.sum := by
  unfold TS.late
  dsimp only
  split
  · exact sum_abort _
  · split
    · exact Nat.le_of_eq (sum_again _)
    · exact Nat.le_of_eq (sum_syn _)
theorem sum_tick (s : TS) : s.tick.sum ≤ s.sum := by
  unfold TS.tick
  split
  · exact Nat.le_refl _
  · dsimp only
    obtain ⟨t, ht⟩ : ∃ t, (if s.nxt = s.una ∧ s.out.length = 0 then 0 else s.timer + 1) = t := ⟨_, rfl⟩
    rw [ht]
    split
    · exact sum_abort _
    · split
      · exact sum_late _
      · split
        · exact Nat.le_refl _
        · exact Nat.le_refl _
theorem sum_close (s : TS) : s.close.sum ≤ s.sum := by
  unfold TS.close
  split
  · exact Nat.le_of_eq (sum_push _)
  · exact Nat.le_refl _
theorem sum_read (s : TS) (n : Int) : (s.read n).2.sum ≤ s.sum := by
  unfold TS.read
  split
  · exact Nat.le_refl _
  · dsimp only
    split
    · exact Nat.le_refl _
    · exact Nat.le_refl _
theorem sum_outp (s : TS) : s.outp.2.sum ≤ s.sum := by
  unfold TS.outp
  split
  · exact Nat.le_refl _
  · exact Nat.le_refl _
theorem write_le (s : TS) (b : List UInt8) : (s.write b).1 ≤ b.length := by
  unfold TS.write
  split
  · exact Nat.zero_le _
  · exact Nat.min_le_left _ _
theorem sum_write (s : TS) (b : List UInt8) : (s.write b).2.sum ≤ s.sum + (s.write b).1 := by
  unfold TS.write
  split
  · exact Nat.le_refl _
  · dsimp only
    rw [sum_push]
    show s.sent + (s.out ++ b.take _).length ≤ s.sent + s.out.length + min b.length (1024 - s.out.length)
    rw [List.length_append, List.length_take]
    omega
end TS
theorem tellB {s : TS} (h : s.Ok) : ∃ (a b c d e : Nat) (f g : Bool), s.tell = [.int .i64 (a : Int), .int .i64 (b : Int), .int .i64 (c : Int), .int .i64 (d : Int), .int .i64 (e : Int), .bool f, .bool g] ∧ b + c ≤ s.sum ∧ c ≤ 1024 ∧ e ≤ 1024 := by
  unfold TS.tell
  split
  · exact ⟨0, 0, 0, 0, 0, false, false, rfl, Nat.zero_le _, Nat.zero_le _, Nat.zero_le _⟩
  · exact ⟨_, _, _, _, _, _, _, rfl, Nat.le_refl _, h.out, h.inn⟩
/-- What was sent, and what waits, has been written. -/
def QB (P : PS) : Prop := ∀ i, i < 2 → (P.c i).sum ≤ (P.wr i).length
section
variable {P : PS} {m : Nat}
theorem QB.setC (h : QB P) {i : Nat} (hi : i < 2) {s : TS} (hs : s.sum ≤ (P.c i).sum) : QB (P.setC i s) := fun j hj => by
  show (fset P.c i s j).sum ≤ (P.wr j).length
  by_cases e : j = i
  · subst e
    rw [fset_at]
    exact Nat.le_trans hs (h j hj)
  · rw [fset_no _ _ e]
    exact h j hj
theorem QB.outI (h : QB P) {i : Nat} (hi : i < 2) : QB (P.outI i) := h.setC hi (TS.sum_outp _)
theorem QB.takes (h : QB P) (hf : PMid P m) {i : Nat} (hi : i < 2) {x : Pk} (hx : TS.PkIn x) : QB (P.takes i x) := by
  unfold PS.takes
  split
  · refine h.setC (i := 1) (by omega) ?_
    refine Nat.le_trans ?_ (Nat.zero_le _)
    cases ha : TS.accept x P.iss with
    | none => exact Nat.le_refl 0
    | some s =>
      have hs : s.sum = 0 := by
        unfold TS.accept at ha
        split at ha
        · cases ha
        · cases ha
          rw [TS.sum_syn]
          rfl
      exact Nat.le_of_eq hs
  · exact h.setC hi (took_take (hf.fine i hi).ok (hf.fine i hi).qu hx).sent
theorem QB.does0 (h : QB P) (hf : PGood P m) (k : ActA) : QB (P.does0 k) := by
  obtain ⟨i, hi⟩ : ∃ i, sideN k = i := ⟨_, rfl⟩
  have hi2 : i < 2 := hi ▸ sideN_lt k
  unfold PS.does0
  dsimp only
  rw [hi]
  split
  · exact h.setC hi2 (TS.sum_tick _)
  · split
    · intro j hj
      show (fset P.c i ((P.c i).write k.b).2 j).sum ≤ (fset P.wr i (P.wr i ++ k.b.take ((P.c i).write k.b).1) j).length
      by_cases e : j = i
      · subst e
        rw [fset_at, fset_at, List.length_append, List.length_take]
        have h1 := TS.sum_write (P.c j) k.b
        have h2 := TS.write_le (P.c j) k.b
        have h3 := h j hj
        omega
      · rw [fset_no _ _ e, fset_no _ _ e]
        exact h j hj
    · split
      · exact h.setC hi2 (TS.sum_read _ _)
      · split
        · split
          · exact h.setC hi2 (TS.sum_close _)
          · exact h
        · split
          · split
            · exact h.setC hi2 (TS.sum_abort _)
            · exact h
          · split
            · exact h
            · rename_i hb
              have hlt : u64N k.at_ % (P.bag i).length < (P.bag i).length := Nat.mod_lt _ (by omega)
              split
              · exact h
              · have hx : PkOk ((P.bag i).getD (u64N k.at_ % (P.bag i).length) Pk.zero) := by
                  rw [List.getD_eq_getElem?_getD, List.getElem?_eq_getElem hlt]
                  exact hf.fine.bok i hi2 _ (List.getElem_mem hlt)
                unfold PS.comes
                split
                · exact h.takes hf.fine.toPMid hi2 hx.2
                · exact QB.takes (P := P.lose i _) h (pmid_lose hf.fine.toPMid hi2) hi2 hx.2
theorem QB.does (h : QB P) (hf : PGood P m) (k : ActA) : QB (P.does k) := ((h.does0 hf k).outI (by omega)).outI (by omega)
end
theorem begun_qb (iss irs : Nat) : QB (PS.begun iss irs) := by
  have h : QB (PS.asked (askS iss) irs) := fun i hi => by
    rcases two_cases hi with rfl | rfl
    · refine Nat.le_of_eq ?_
      show (askS iss).sum = 0
      unfold askS
      rw [TS.sum_syn]
      rfl
    · exact Nat.le_refl 0
  exact (h.outI (i := 0) (by omega)).outI (i := 1) (by omega)
end Go.Proofs.Ytjhnnnklfhbebaa
