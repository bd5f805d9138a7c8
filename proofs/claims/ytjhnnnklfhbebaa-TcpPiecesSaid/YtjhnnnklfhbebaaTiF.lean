/- flumelaw13's pair: what it keeps, whatever happens (plain). -/
import Derived.Test.YtjhnnnklfhbebaaTiE
namespace Go.Proofs.Ytjhnnnklfhbebaa
open Go.RowKit
set_option linter.unusedVariables false
theorem zero_take' (p : Pk) : TS.zero.take p = TS.zero := rfl
def sideN (k : ActA) : Nat := (bits .and .i64 k.side 1).toNat
def u64N (x : Int) : Nat := (x % 18446744073709551616).toNat
def opN (k : ActA) : Nat := u64N k.op % 11
theorem sideN_lt (k : ActA) : sideN k < 2 := by
  unfold sideN
  rcases fbit1 k.side with e | e <;> rw [e] <;> decide
theorem opN_lt (k : ActA) : opN k < 11 := Nat.mod_lt _ (by decide)
namespace PS
def setC (P : PS) (i : Nat) (s : TS) : PS := { P with c := fset P.c i s }
def setW (P : PS) (i : Nat) (l : List UInt8) : PS := { P with wr := fset P.wr i l }
def setR (P : PS) (i : Nat) (l : List UInt8) : PS := { P with rd := fset P.rd i l }
/-- An act, ahead of what is put out. -/
def does0 (P : PS) (k : ActA) : PS :=
  let i := sideN k
  if opN k = 4 ∨ opN k = 5 then P.setC i (P.c i).tick
  else if opN k = 6 then (P.setC i ((P.c i).write k.b).2).setW i (P.wr i ++ k.b.take ((P.c i).write k.b).1)
  else if opN k = 7 then (P.setC i ((P.c i).read k.n).2).setR i (P.rd i ++ ((P.c i).read k.n).1)
  else if opN k = 9 then (if k.n = 0 then P.setC i (P.c i).close else P)
  else if opN k = 10 then (if k.n = 0 then P.setC i (P.c i).abort else P)
  else if (P.bag i).length = 0 then P
  else if opN k = 8 then P.lose i (u64N k.at_ % (P.bag i).length)
  else P.comes i (u64N k.at_ % (P.bag i).length) k.stay
def does (P : PS) (k : ActA) : PS := (P.does0 k).out
end PS
/-- What a pair keeps behind so many acts, ahead of what is put out. -/
structure PMid (P : PS) (m : Nat) : Prop where
  fine : ∀ i, i < 2 → (P.c i).Fine m
  pack : ∀ i, i < 2 → (P.c i).pack.length ≤ 1100
  bag : ∀ i, i < 2 → (P.bag i).length ≤ 300
  wr : ∀ i, i < 2 → (P.wr i).length ≤ 1024 * m
  rd : ∀ i, i < 2 → (P.rd i).length ≤ 1024 * m
  iss : P.iss < 4294967296
  good : ∀ i, i < 2 → P.c i = TS.zero ∨ (P.c i).Good
  bok : ∀ i, i < 2 → ∀ p ∈ P.bag i, PkOk p
structure PFine (P : PS) (m : Nat) : Prop extends PMid P m where
  empty : ∀ i, i < 2 → (P.c i).pack = []
theorem fset_all {α : Type} {f : Nat → α} {i : Nat} {x : α} {Q : Nat → α → Prop} (h : ∀ j, j < 2 → j ≠ i → Q j (f j)) (hx : Q i x) : ∀ j, j < 2 → Q j (fset f i x j) := fun j hj => by
  by_cases e : j = i
  · subst e
    rw [fset_at]
    exact hx
  · rw [fset_no _ _ e]
    exact h j hj e
theorem PMid.more {P : PS} {m m' : Nat} (h : PMid P m) (hm : m ≤ m') : PMid P m' := ⟨fun i hi => (h.fine i hi).more hm, h.pack, h.bag, fun i hi => by have := h.wr i hi; omega, fun i hi => by have := h.rd i hi; omega, h.iss, h.good, h.bok⟩
theorem addBag_all {Q : Pk → Prop} : ∀ (ps b : List Pk), (∀ p ∈ b, Q p) → (∀ p ∈ ps, Q p) → ∀ p ∈ addBag b ps, Q p
  | [], b, hb, _ => hb
  | x :: r, b, hb, hp => by
    show ∀ p ∈ addBag (if b.length < 300 then b ++ [x] else b) r, Q p
    refine addBag_all r _ ?_ (fun p h => hp p (.tail _ h))
    split
    · intro p hq
      rcases List.mem_append.1 hq with hq | hq
      · exact hb p hq
      · rw [List.mem_singleton.1 hq]
        exact hp x (.head _)
    · exact hb
theorem outp_pack (s : TS) (h0 : s.state = 0 → s.pack = []) : s.outp.2.pack = [] := by
  unfold TS.outp
  split
  · rename_i h
    exact h0 h
  · rfl
section
variable {P : PS} {m : Nat}
/-- An endpoint is nil, or it is made. -/
theorem PMid.nil0 (h : PMid P m) {i : Nat} (hi : i < 2) (hst : ∀ s : TS, s.Good → s.state ≠ 0) : True := trivial
theorem pmid_outI (h : PMid P m) {i : Nat} (hi : i < 2) : PMid (P.outI i) m := by
  have hb : ∀ p ∈ (P.c i).outp.1, PkOk p := by
    rcases h.good i hi with e | e
    · rw [e]
      intro p hp
      cases hp
    · exact e.outp.2
  have hj : 1 - i < 2 := by omega
  refine ⟨fset_all (Q := fun j (s : TS) => s.Fine m) (fun j hj _ => h.fine j hj) (h.fine i hi).outp, fset_all (Q := fun j (s : TS) => s.pack.length ≤ 1100) (fun j hj _ => h.pack j hj) ?_, fset_all (Q := fun j (l : List Pk) => l.length ≤ 300) (fun j hj _ => h.bag j hj) (addBag_le _ (h.bag _ hj) _), h.wr, h.rd, h.iss, fset_all (Q := fun j (s : TS) => s = TS.zero ∨ s.Good) (fun j hj _ => h.good j hj) ?_, fset_all (Q := fun j (l : List Pk) => ∀ p ∈ l, PkOk p) (fun j hj _ => h.bok j hj) (addBag_all _ _ (h.bok _ hj) hb)⟩
  · have := h.pack i hi
    show (P.c i).outp.2.pack.length ≤ 1100
    unfold TS.outp
    split
    · exact this
    · exact Nat.zero_le _
  · rcases h.good i hi with e | e
    · left
      rw [e]
      rfl
    · exact .inr e.outp.1
theorem out_empty (h : PMid P m) (hz : ∀ i, i < 2 → (P.c i).state = 0 → (P.c i).pack = []) : ∀ i, i < 2 → ((P.out).c i).pack = [] := fun i hi => by
  rcases two_cases hi with rfl | rfl
  · show (fset (fset P.c 0 (P.c 0).outp.2) 1 (fset P.c 0 (P.c 0).outp.2 1).outp.2 0).pack = []
    rw [fset_no _ _ (by decide), fset_at]
    exact outp_pack _ (hz 0 (by omega))
  · show (fset (fset P.c 0 (P.c 0).outp.2) 1 (fset P.c 0 (P.c 0).outp.2 1).outp.2 1).pack = []
    rw [fset_at, fset_no _ _ (by decide)]
    exact outp_pack _ (hz 1 (by omega))
theorem pfine_out (h : PMid P m) (hz : ∀ i, i < 2 → (P.c i).state = 0 → (P.c i).pack = []) : PFine P.out m := ⟨pmid_outI (pmid_outI h (by omega)) (by omega), out_empty h hz⟩
/-- What no call has made has put nothing out. -/
def Zok (P : PS) : Prop := ∀ i, i < 2 → (P.c i).state = 0 → P.c i = TS.zero
theorem Zok.pack (h : Zok P) : ∀ i, i < 2 → (P.c i).state = 0 → (P.c i).pack = [] := fun i hi h0 => by rw [h i hi h0]; rfl
theorem Zok.setC (h : Zok P) {i : Nat} (hi : i < 2) {s : TS} (hs : (P.c i).state ≠ 0 → s.state ≠ 0) (hz : P.c i = TS.zero → s = TS.zero) : Zok (P.setC i s) := fset_all (Q := fun j (s : TS) => s.state = 0 → s = TS.zero) (fun j hj _ => h j hj) fun h0 => by
  by_cases e : (P.c i).state = 0
  · exact hz (h i hi e)
  · exact absurd h0 (hs e)
theorem Zok.out (h : Zok P) : Zok P.out := by
  have h1 : ∀ (P : PS) (i : Nat), i < 2 → Zok P → Zok (P.outI i) := fun P i hi h => fset_all (Q := fun j (s : TS) => s.state = 0 → s = TS.zero) (fun j hj _ => h j hj) fun h0 => by
    have : (P.c i).state = 0 := by
      unfold TS.outp at h0
      split at h0
      · exact h0
      · exact h0
    rw [h i hi this]
    rfl
  exact h1 _ 1 (by omega) (h1 _ 0 (by omega) h)
theorem pmid_setC (h : PFine P m) {i : Nat} (hi : i < 2) {s : TS} (w : TS.Went (P.c i) s) (hz : P.c i = TS.zero → s = TS.zero) (hg : (P.c i).Good → s.Good) : PMid (P.setC i s) (m + 1) := by
  have h1 := h.toPMid.more (Nat.le_add_right m 1)
  refine ⟨fset_all (Q := fun j (s : TS) => s.Fine (m + 1)) (fun j hj _ => h1.fine j hj) ((h.fine i hi).went w), fset_all (Q := fun j (s : TS) => s.pack.length ≤ 1100) (fun j hj _ => h.pack j hj) ?_, h1.bag, h1.wr, h1.rd, h1.iss, fset_all (Q := fun j (s : TS) => s = TS.zero ∨ s.Good) (fun j hj _ => h.good j hj) ((h.good i hi).imp hz hg), h1.bok⟩
  obtain ⟨ps, e, hl⟩ := w.pre
  rw [e, h.empty i hi]
  exact hl
theorem pmid_lose (h : PMid P m) {i at_ : Nat} (hi : i < 2) : PMid (P.lose i at_) m :=
  ⟨h.fine, h.pack, fset_all (Q := fun j (l : List Pk) => l.length ≤ 300) (fun j hj _ => h.bag j hj) (by
    have := h.bag i hi
    have := List.length_eraseIdx_le (P.bag i) at_
    omega), h.wr, h.rd, h.iss, h.good, fset_all (Q := fun j (l : List Pk) => ∀ p ∈ l, PkOk p) (fun j hj _ => h.bok j hj) fun p hp => h.bok i hi p (List.mem_of_mem_eraseIdx hp)⟩
theorem PFine.lose (h : PFine P m) {i at_ : Nat} (hi : i < 2) : PFine (P.lose i at_) m := ⟨pmid_lose h.toPMid hi, h.empty⟩
theorem pmid_takes (h : PFine P m) (hz : Zok P) {i : Nat} (hi : i < 2) {x : Pk} (hx : TS.PkIn x) : PMid (P.takes i x) (m + 1) ∧ Zok (P.takes i x) := by
  unfold PS.takes
  split
  · have h1 := h.toPMid.more (Nat.le_add_right m 1)
    cases ha : TS.accept x P.iss with
    | none =>
      have e : fset P.c 1 ((none : Option TS).getD TS.zero) = P.c := by
        rename_i hc
        funext j
        unfold fset
        split
        · rename_i ej
          rw [ej, hz 1 (by omega) hc.2]
          rfl
        · rfl
      rw [e]
      exact ⟨h1, hz⟩
    | some s =>
      obtain ⟨f1, f2, f3⟩ := TS.accept_fine hx h.iss ha
      refine ⟨⟨fset_all (Q := fun j (s : TS) => s.Fine (m + 1)) (fun j hj _ => h1.fine j hj) (f1.more (Nat.zero_le _)), fset_all (Q := fun j (s : TS) => s.pack.length ≤ 1100) (fun j hj _ => h1.pack j hj) (by show s.pack.length ≤ 1100; omega), h1.bag, h1.wr, h1.rd, h1.iss, fset_all (Q := fun j (s : TS) => s = TS.zero ∨ s.Good) (fun j hj _ => h1.good j hj) (.inr (TS.accept_good hx h.iss ha)), h1.bok⟩, fset_all (Q := fun j (s : TS) => s.state = 0 → s = TS.zero) (fun j hj _ => hz j hj) fun h0 => by have h0 : s.state = 0 := h0; omega⟩
  · have hf := h.fine i hi
    have t := (took_take hf.ok hf.qu hx).went
    exact ⟨pmid_setC h hi t (fun e => by rw [e]; rfl) fun g => g.take hf.ok.iss hx, hz.setC hi t.st fun e => by rw [e]; rfl⟩
theorem pmid_does0 (h : PFine P m) (hz : Zok P) (k : ActA) : PMid (P.does0 k) (m + 1) ∧ Zok (P.does0 k) := by
  have hi := sideN_lt k
  obtain ⟨i, hii⟩ : ∃ i, sideN k = i := ⟨_, rfl⟩
  have hf := h.fine i (hii ▸ hi)
  have h1 := h.toPMid.more (Nat.le_add_right m 1)
  unfold PS.does0
  rw [hii] at hi ⊢
  dsimp only
  split
  · have w := TS.went_tick hf.ok hf.qu
    exact ⟨pmid_setC h hi w (fun e => by rw [e]; rfl) fun g => g.tick hf.ok.iss, hz.setC hi w.st fun e => by rw [e]; rfl⟩
  · split
    · have w := TS.went_write hf.ok hf.qu k.b
      have h2 := pmid_setC h hi w (fun e => by rw [e]; rfl) fun g => g.write k.b
      refine ⟨⟨h2.fine, h2.pack, h2.bag, fset_all (Q := fun j (l : List UInt8) => l.length ≤ 1024 * (m + 1)) (fun j hj _ => h2.wr j hj) ?_, h2.rd, h2.iss, h2.good, h2.bok⟩, hz.setC hi w.st fun e => by rw [e]; rfl⟩
      have h3 : ((P.c i).write k.b).1 ≤ 1024 := by
        unfold TS.write
        split
        · exact Nat.zero_le _
        · show min k.b.length (1024 - (P.c i).out.length) ≤ 1024
          omega
      rw [List.length_append, List.length_take]
      have := h.wr i hi
      omega
    · split
      · have w := TS.went_read hf.ok hf.qu k.n
        have h2 := pmid_setC h hi w (fun e => by rw [e]; rfl) fun g => g.read k.n
        refine ⟨⟨h2.fine, h2.pack, h2.bag, h2.wr, fset_all (Q := fun j (l : List UInt8) => l.length ≤ 1024 * (m + 1)) (fun j hj _ => h2.rd j hj) ?_, h2.iss, h2.good, h2.bok⟩, hz.setC hi w.st fun e => by rw [e]; rfl⟩
        have h3 : ((P.c i).read k.n).1.length ≤ 1024 := by
          unfold TS.read
          split
          · exact Nat.zero_le _
          · show ((P.c i).inn.take _).length ≤ 1024
            rw [List.length_take]
            have := hf.ok.inn
            omega
        rw [List.length_append]
        have := h.rd i hi
        omega
      · split
        · split
          · have w := TS.went_close hf.ok hf.qu
            exact ⟨pmid_setC h hi w (fun e => by rw [e]; rfl) fun g => g.close, hz.setC hi w.st fun e => by rw [e]; rfl⟩
          · exact ⟨h1, hz⟩
        · split
          · split
            · have w := TS.went_abort0 hf.ok hf.qu
              exact ⟨pmid_setC h hi w (fun e => by rw [e]; rfl) fun g => g.abort, hz.setC hi w.st fun e => by rw [e]; rfl⟩
            · exact ⟨h1, hz⟩
          · split
            · exact ⟨h1, hz⟩
            · rename_i hb
              have hlt : u64N k.at_ % (P.bag i).length < (P.bag i).length := Nat.mod_lt _ (by omega)
              split
              · exact ⟨pmid_lose h1 hi, hz⟩
              · have hx : PkOk ((P.bag i).getD (u64N k.at_ % (P.bag i).length) Pk.zero) := by
                  rw [List.getD_eq_getElem?_getD, List.getElem?_eq_getElem hlt]
                  exact h.bok i hi _ (List.getElem_mem hlt)
                unfold PS.comes
                split
                · exact pmid_takes h hz hi hx.2
                · exact pmid_takes (h.lose hi) (show Zok (P.lose i _) from hz) hi hx.2
/-- What a pair keeps behind so many acts. -/
structure PGood (P : PS) (m : Nat) : Prop where
  fine : PFine P m
  zok : Zok P
theorem PGood.does (h : PGood P m) (k : ActA) : PGood (P.does k) (m + 1) := by
  obtain ⟨h1, h2⟩ := pmid_does0 h.fine h.zok k
  exact ⟨pfine_out h1 h2.pack, h2.out⟩
theorem begun_good {iss irs : Nat} (h : iss < 4294967296) (h2 : irs < 4294967296) : PGood (PS.begun iss irs) 0 := by
  obtain ⟨f1, f2, f3⟩ := TS.dial_fine h (ask_dial iss)
  have hz : Zok (PS.asked (askS iss) irs) := fun i hi h0 => by
    rcases two_cases hi with rfl | rfl
    · have h0 : (askS iss).state = 0 := h0
      omega
    · rfl
  have hm : PMid (PS.asked (askS iss) irs) 0 := by
    refine ⟨fun i hi => ?_, fun i hi => ?_, fun i hi => Nat.zero_le _, fun i hi => Nat.zero_le _, fun i hi => Nat.zero_le _, h2, fun i hi => ?_, fun i hi p hp => (by cases hp)⟩
    · rcases two_cases hi with rfl | rfl
      · exact f1
      · exact TS.fine_zero 0
    · rcases two_cases hi with rfl | rfl
      · show (askS iss).pack.length ≤ 1100
        omega
      · exact Nat.zero_le _
    · rcases two_cases hi with rfl | rfl
      · exact .inr (TS.dial_good h (ask_dial iss))
      · exact .inl rfl
  exact ⟨pfine_out hm hz.pack, hz.out⟩
end
end Go.Proofs.Ytjhnnnklfhbebaa
