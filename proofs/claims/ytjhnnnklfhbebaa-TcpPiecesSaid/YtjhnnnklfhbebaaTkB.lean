/- flumelaw13's pair: what an act of settle leaves; what push sends (plain). tcp: what push sends; what an endpoint does with packets that come in their order (plain). flumelaw13's pair: bytes go one way, and nothing is lost (plain). flumelaw13's pair: bytes go one way, and nothing is lost: each side's steps (plain). flumelaw13's pair: bytes go one way, and nothing is lost: settle (plain). flumelaw13's pair: bytes go one way, and nothing is lost: what comes to who reads; all has come (plain). flumelaw13's pair: bytes go one way, and nothing is lost: settle leaves nothing under way (plain). -/
import Derived.Test.YtjhnnnklfhbebaaTiS
namespace Go.Proofs.Ytjhnnnklfhbebaa
open Go.RowKit
set_option linter.unusedVariables false
set_option linter.unusedSimpArgs false
theorem addBag_fit : ∀ (ps b : List Pk), b.length + ps.length ≤ 300 → addBag b ps = b ++ ps
  | [], b, _ => (List.append_nil b).symm
  | x :: r, b, h => by
    have hl : (x :: r).length = r.length + 1 := rfl
    show addBag (if b.length < 300 then b ++ [x] else b) r = b ++ x :: r
    rw [if_pos (by omega), addBag_fit r _ (by rw [List.length_append, List.length_singleton]; omega), List.append_assoc]
    rfl
namespace TS
def empty (s : TS) : TS := { s with pack := [] }
theorem outp_eq {s : TS} (h : s.state = 0 → s.pack = []) : s.outp = (s.pack, s.empty) := by
  unfold TS.outp
  split
  · rename_i h0
    unfold TS.empty
    have := h h0
    cases s
    dsimp only at this
    subst this
    rfl
  · rfl
theorem empty_eq {s : TS} (h : s.pack = []) : s.empty = s := by
  unfold TS.empty
  cases s
  dsimp only at h
  subst h
  rfl
end TS
/-- What one side's doings leave. -/
structure Left (P Q : PS) (i : Nat) (s : TS) (bi : List Pk) (wr rd : List UInt8) : Prop where
  c : Q.c i = s.empty
  co : Q.c (1 - i) = P.c (1 - i)
  bag : Q.bag i = bi
  bago : Q.bag (1 - i) = P.bag (1 - i) ++ s.pack
  wr : Q.wr i = wr
  wro : Q.wr (1 - i) = P.wr (1 - i)
  rd : Q.rd i = rd
  rdo : Q.rd (1 - i) = P.rd (1 - i)
  iss : Q.iss = P.iss
section
variable {P : PS} {i : Nat}
theorem out_one {Q : PS} (hi : i < 2) (hp : (P.c (1 - i)).pack = []) (hz : (Q.c i).state = 0 → (Q.c i).pack = []) (ho : Q.c (1 - i) = P.c (1 - i)) (hb : Q.bag (1 - i) = P.bag (1 - i)) (hw : Q.wr (1 - i) = P.wr (1 - i)) (hr : Q.rd (1 - i) = P.rd (1 - i)) (hs : Q.iss = P.iss)
    (hl : (P.bag (1 - i)).length + (Q.c i).pack.length ≤ 300) : Left P Q.out i (Q.c i) (Q.bag i) (Q.wr i) (Q.rd i) := by
  have e1 := TS.outp_eq hz
  have e2 : (Q.c (1 - i)).outp = ([], Q.c (1 - i)) := by
    rw [ho, TS.outp_eq (fun _ => hp), TS.empty_eq hp, hp]
  have e3 : addBag (Q.bag (1 - i)) (Q.c i).pack = P.bag (1 - i) ++ (Q.c i).pack := by rw [hb]; exact addBag_fit _ _ hl
  have hne : 1 - i ≠ i := by omega
  have hd : ∀ k, 1 - (1 - k) = k ∨ 2 ≤ k := fun k => by omega
  have hfor : ∀ a, a < 2 → a = i ∨ a = 1 - i := fun a ha => by omega
  -- side a's part of out
  have key : ∀ (R : PS) (a : Nat), a < 2 → (R.c i = Q.c i ∨ R.c i = (Q.c i).empty) → True := fun _ _ _ _ => trivial
  have f1 : ((Q.outI i).outI (1 - i)).c i = (Q.c i).empty ∧ ((Q.outI i).outI (1 - i)).c (1 - i) = P.c (1 - i) ∧ ((Q.outI i).outI (1 - i)).bag i = Q.bag i ∧ ((Q.outI i).outI (1 - i)).bag (1 - i) = P.bag (1 - i) ++ (Q.c i).pack := by
    have c1 : (Q.outI i).c (1 - i) = Q.c (1 - i) := fset_no _ _ hne
    refine ⟨?_, ?_, ?_, ?_⟩
    · show fset (fset Q.c i (Q.c i).outp.2) (1 - i) _ i = _
      rw [fset_no _ _ hne.symm, fset_at, e1]
    · show fset (fset Q.c i (Q.c i).outp.2) (1 - i) ((Q.outI i).c (1 - i)).outp.2 (1 - i) = _
      rw [fset_at, c1, e2]
      exact ho
    · show fset (fset Q.bag (1 - i) (addBag (Q.bag (1 - i)) (Q.c i).outp.1)) (1 - (1 - i)) (addBag ((Q.outI i).bag (1 - (1 - i))) ((Q.outI i).c (1 - i)).outp.1) i = _
      rw [show 1 - (1 - i) = i by omega, fset_at, c1, e2]
      show fset Q.bag (1 - i) _ i = Q.bag i
      rw [fset_no _ _ hne.symm]
    · show fset (fset Q.bag (1 - i) (addBag (Q.bag (1 - i)) (Q.c i).outp.1)) (1 - (1 - i)) _ (1 - i) = _
      rw [show 1 - (1 - i) = i by omega, fset_no _ _ hne, fset_at, e1]
      exact e3
  have f2 : ((Q.outI (1 - i)).outI i).c i = (Q.c i).empty ∧ ((Q.outI (1 - i)).outI i).c (1 - i) = P.c (1 - i) ∧ ((Q.outI (1 - i)).outI i).bag i = Q.bag i ∧ ((Q.outI (1 - i)).outI i).bag (1 - i) = P.bag (1 - i) ++ (Q.c i).pack := by
    have c1 : (Q.outI (1 - i)).c i = Q.c i := fset_no _ _ hne.symm
    refine ⟨?_, ?_, ?_, ?_⟩
    · show fset (fset Q.c (1 - i) (Q.c (1 - i)).outp.2) i ((Q.outI (1 - i)).c i).outp.2 i = _
      rw [fset_at, c1, e1]
    · show fset (fset Q.c (1 - i) (Q.c (1 - i)).outp.2) i _ (1 - i) = _
      rw [fset_no _ _ hne, fset_at, e2]
      exact ho
    · show fset (fset Q.bag (1 - (1 - i)) (addBag (Q.bag (1 - (1 - i))) (Q.c (1 - i)).outp.1)) (1 - i) _ i = _
      rw [show 1 - (1 - i) = i by omega, fset_no _ _ hne.symm, fset_at, e2]
      rfl
    · show fset (fset Q.bag (1 - (1 - i)) (addBag (Q.bag (1 - (1 - i))) (Q.c (1 - i)).outp.1)) (1 - i) (addBag ((Q.outI (1 - i)).bag (1 - i)) ((Q.outI (1 - i)).c i).outp.1) (1 - i) = _
      rw [fset_at, c1, e1]
      show addBag (fset Q.bag (1 - (1 - i)) _ (1 - i)) (Q.c i).pack = _
      rw [show 1 - (1 - i) = i by omega, fset_no _ _ hne]
      exact e3
  have hall : Q.out.c i = (Q.c i).empty ∧ Q.out.c (1 - i) = P.c (1 - i) ∧ Q.out.bag i = Q.bag i ∧ Q.out.bag (1 - i) = P.bag (1 - i) ++ (Q.c i).pack := by
    rcases two_cases hi with rfl | rfl
    · exact f1
    · exact f2
  exact ⟨hall.1, hall.2.1, hall.2.2.1, hall.2.2.2, rfl, hw, rfl, hr, hs⟩
theorem side_lit (h : i < 2) : bits .and .i64 (i : Int) 1 = (i : Int) := by rcases two_cases h with rfl | rfl <;> decide +kernel
theorem sideN_gv (h : i < 2) : sideN (gvA i) = i := by rcases two_cases h with rfl | rfl <;> decide +kernel
theorem sideN_rd (h : i < 2) : sideN (rdA i) = i := by rcases two_cases h with rfl | rfl <;> decide +kernel
theorem sideN_tk (h : i < 2) : sideN (tkA i) = i := by rcases two_cases h with rfl | rfl <;> decide +kernel
/-- A side is given the packet that waits. -/
theorem does_gv (hi : i < 2) {p : Pk} {r : List Pk} (hb : P.bag i = p :: r) (hp : (P.c (1 - i)).pack = []) (h0 : (P.c i).state ≠ 0) (hs : ((P.c i).take p).state ≠ 0) (hl : (P.bag (1 - i)).length + ((P.c i).take p).pack.length ≤ 300) :
    Left P (P.does (gvA i)) i ((P.c i).take p) r (P.wr i) (P.rd i) := by
  have hne : 1 - i ≠ i := by omega
  have e : P.does0 (gvA i) = (P.lose i 0).takes i p := by
    have e1 : opN (gvA i) = 0 := rfl
    have e2 : u64N (gvA i).at_ = 0 := rfl
    unfold PS.does0
    rw [sideN_gv hi, e1, e2]
    dsimp only
    rw [if_neg (by decide), if_neg (by decide), if_neg (by decide), if_neg (by decide), if_neg (by decide), hb, if_neg (by rw [List.length_cons]; omega), if_neg (by decide), Nat.zero_mod]
    unfold PS.comes
    rw [hb]
    rfl
  have e2 : (P.lose i 0).takes i p = { P.lose i 0 with c := fset P.c i ((P.c i).take p) } := by
    unfold PS.takes
    rw [if_neg]
    · rfl
    · rintro ⟨rfl, h⟩
      exact h0 h
  have hc : ((P.lose i 0).takes i p).c i = (P.c i).take p := by rw [e2]; exact fset_at _ _ _
  have hbg : ((P.lose i 0).takes i p).bag i = r := by
    rw [e2]
    show fset P.bag i ((P.bag i).eraseIdx 0) i = r
    rw [fset_at, hb]
    rfl
  have hbo : ((P.lose i 0).takes i p).bag (1 - i) = P.bag (1 - i) := by rw [e2]; exact fset_no _ _ hne
  have := out_one (P := P) (Q := (P.lose i 0).takes i p) hi hp (fun h => absurd (hc ▸ h) hs) (by rw [e2]; exact fset_no _ _ hne) hbo (by rw [e2]; rfl) (by rw [e2]; rfl) (by rw [e2]; rfl) (by rw [hc]; exact hl)
  rw [hc, hbg] at this
  unfold PS.does
  rw [e]
  rw [show ((P.lose i 0).takes i p).wr i = P.wr i by rw [e2]; rfl, show ((P.lose i 0).takes i p).rd i = P.rd i by rw [e2]; rfl] at this
  exact this
/-- A side reads. -/
theorem does_rd (hi : i < 2) (hp : (P.c (1 - i)).pack = []) (hz : ((P.c i).read 5000).2.state = 0 → ((P.c i).read 5000).2.pack = []) (hl : (P.bag (1 - i)).length + ((P.c i).read 5000).2.pack.length ≤ 300) :
    Left P (P.does (rdA i)) i ((P.c i).read 5000).2 (P.bag i) (P.wr i) (P.rd i ++ ((P.c i).read 5000).1) := by
  have hne : 1 - i ≠ i := by omega
  have e : P.does0 (rdA i) = (P.setC i ((P.c i).read 5000).2).setR i (P.rd i ++ ((P.c i).read 5000).1) := by
    have e1 : opN (rdA i) = 7 := rfl
    unfold PS.does0
    rw [sideN_rd hi, e1]
    rfl
  have hc : ((P.setC i ((P.c i).read 5000).2).setR i (P.rd i ++ ((P.c i).read 5000).1)).c i = ((P.c i).read 5000).2 := fset_at _ _ _
  have hr : ((P.setC i ((P.c i).read 5000).2).setR i (P.rd i ++ ((P.c i).read 5000).1)).rd i = P.rd i ++ ((P.c i).read 5000).1 := fset_at _ _ _
  have := out_one (P := P) (Q := (P.setC i ((P.c i).read 5000).2).setR i (P.rd i ++ ((P.c i).read 5000).1)) hi hp (by rw [hc]; exact hz) (fset_no _ _ hne) rfl rfl (fset_no _ _ hne) rfl (by rw [hc]; exact hl)
  rw [hc, hr] at this
  unfold PS.does
  rw [e]
  exact this
/-- A side ticks. -/
theorem does_tk (hi : i < 2) (hp : (P.c (1 - i)).pack = []) (hz : (P.c i).tick.state = 0 → (P.c i).tick.pack = []) (hl : (P.bag (1 - i)).length + (P.c i).tick.pack.length ≤ 300) :
    Left P (P.does (tkA i)) i (P.c i).tick (P.bag i) (P.wr i) (P.rd i) := by
  have hne : 1 - i ≠ i := by omega
  have e : P.does0 (tkA i) = P.setC i (P.c i).tick := by
    have e1 : opN (tkA i) = 4 := rfl
    unfold PS.does0
    rw [sideN_tk hi, e1]
    rfl
  have hc : (P.setC i (P.c i).tick).c i = (P.c i).tick := fset_at _ _ _
  have := out_one (P := P) (Q := P.setC i (P.c i).tick) hi hp (by rw [hc]; exact hz) (fset_no _ _ hne) rfl rfl rfl rfl (by rw [hc]; exact hl)
  rw [hc] at this
  unfold PS.does
  rw [e]
  exact this
end
end Go.Proofs.Ytjhnnnklfhbebaa
namespace Go.Proofs.Ytjhnnnklfhbebaa
open Go.RowKit
set_option linter.unusedVariables false
set_option linter.unusedSimpArgs false
/-- Packets with what stands from v on, up to x. -/
def SentF (i a w u : Nat) (out : List UInt8) (fin : Bool) : Nat → List Pk → Nat → Prop
  | v, [], x => v = x
  | v, p :: r, x => p.seq = m32 (i + v) ∧ p.ack = a ∧ p.wn = (w : Int) ∧ ((p.fl = 2 ∧ p.data ≠ [] ∧ p.data = (out.drop (v - u)).take p.data.length ∧ v - u + p.data.length ≤ out.length ∧ p.data.length ≤ 128 ∧ SentF i a w u out fin (v + p.data.length) r x) ∨
      (p.fl = 6 ∧ p.data = [] ∧ v = u + out.length ∧ fin = true ∧ SentF i a w u out fin (v + 1) r x))
theorem SentF.app {i a w u : Nat} {out : List UInt8} {fin : Bool} : ∀ (ps : List Pk) {qs : List Pk} {v y x : Nat}, SentF i a w u out fin v ps y → SentF i a w u out fin y qs x → SentF i a w u out fin v (ps ++ qs) x
  | [], qs, v, y, x, h, k => by
    have h : v = y := h
    subst h
    exact k
  | p :: r, qs, v, y, x, h, k => by
    obtain ⟨h1, h2, h3, h4⟩ := h
    refine ⟨h1, h2, h3, ?_⟩
    rcases h4 with ⟨a1, a2, a3, a4, a5, a6⟩ | ⟨a1, a2, a3, a4, a5⟩
    · exact .inl ⟨a1, a2, a3, a4, a5, SentF.app r a6 k⟩
    · exact .inr ⟨a1, a2, a3, a4, SentF.app r a5 k⟩
theorem sent_le {i a w u : Nat} {out : List UInt8} {fin : Bool} : ∀ (ps : List Pk) {v x : Nat}, SentF i a w u out fin v ps x → v ≤ x
  | [], v, x, h => by
    have h : v = x := h
    omega
  | p :: r, v, x, h => by
    obtain ⟨h1, h2, h3, h4⟩ := h
    rcases h4 with ⟨a1, a2, a3, a4, a5, a6⟩ | ⟨a1, a2, a3, a4, a5⟩
    · have := sent_le r a6
      omega
    · have := sent_le r a5
      omega
namespace TS
variable {s : TS}
def Sent (s : TS) (v : Nat) (ps : List Pk) (x : Nat) : Prop := SentF s.iss (s.rnum s.rcv) s.window s.una s.out (s.shut && !s.over) v ps x
theorem eta_top (s : TS) (h : s.nxt ≤ s.top) : s = { s with nxt := s.nxt, top := max s.top s.nxt, pack := s.pack ++ [] } := by
  rw [Nat.max_eq_left h, List.append_nil]
theorem pushL_run : ∀ (f : Nat) (s : TS), s.una ≤ s.nxt → s.nxt ≤ s.top → s.out.length - s.off < f → ∃ ps x, TS.pushL f s = { s with nxt := x, top := max s.top x, pack := s.pack ++ ps } ∧ s.Sent s.nxt ps x ∧ s.nxt ≤ x ∧ (s.off ≤ s.out.length → x ≤ s.una + s.out.length) ∧ (s.out.length < s.off → x = s.nxt) ∧ (s.una + s.out.length ≤ x ∨ s.una + s.wnd ≤ (x : Int)) ∧ 128 * ps.length ≤ x - s.nxt + 127 ∧ (0 < s.may → s.nxt < x)
  | 0, s, _, _, h => absurd h (Nat.not_lt_zero _)
  | f + 1, s, h1, h2, h => by
    have hoff : s.off = s.nxt - s.una := rfl
    by_cases hm : s.may ≤ 0
    · refine ⟨[], s.nxt, ?_, rfl, Nat.le_refl _, fun e => by omega, fun _ => rfl, ?_, by rw [List.length_nil]; omega, fun e => by omega⟩
      · show (if s.may ≤ 0 then s else TS.pushL f (s.send s.may.toNat)) = _
        rw [if_pos hm]
        exact eta_top s h2
      · unfold TS.may at hm
        omega
    · have hm1 : s.may ≤ 128 ∧ s.may ≤ (s.out.length : Int) - (s.off : Int) ∧ s.may ≤ s.wnd - (s.off : Int) ∧ (s.may = 128 ∨ s.may = (s.out.length : Int) - (s.off : Int) ∨ s.may = s.wnd - (s.off : Int)) := by unfold TS.may; omega
      obtain ⟨n, hn⟩ : ∃ n, s.may.toNat = n := ⟨_, rfl⟩
      have hni : s.may = (n : Int) := by omega
      have hoff2 : (s.send n).off = s.nxt + n - s.una := rfl
      have hout2 : (s.send n).out = s.out := rfl
      obtain ⟨ps, x, e, k1, k2, k3, k4, k5, k6, k7⟩ := pushL_run f (s.send n) (by show s.una ≤ s.nxt + n; omega) (by show s.nxt + n ≤ max s.top (s.nxt + n); omega) (by rw [hout2, hoff2]; omega)
      have k2 : s.nxt + n ≤ x := k2
      have k3 : (s.send n).off ≤ s.out.length → x ≤ s.una + s.out.length := k3
      have k5 : s.una + s.out.length ≤ x ∨ s.una + s.wnd ≤ (x : Int) := k5
      have k6 : 128 * ps.length ≤ x - (s.nxt + n) + 127 := k6
      rw [hoff2] at k3
      refine ⟨s.mkp 2 (s.num s.nxt) ((s.out.drop s.off).take n) :: ps, x, ?_, ?_, by omega, fun _ => k3 (by omega), fun e => by omega, k5, ?_, fun _ => by omega⟩
      · show (if s.may ≤ 0 then s else TS.pushL f (s.send s.may.toNat)) = _
        rw [if_neg hm, hn, e]
        show ({ s with nxt := x, top := max (max s.top (s.nxt + n)) x, pack := (s.pack ++ [s.mkp 2 (s.num s.nxt) ((s.out.drop s.off).take n)]) ++ ps } : TS) = _
        rw [List.append_assoc, show max (max s.top (s.nxt + n)) x = max s.top x by omega]
        rfl
      · have hl : ((s.out.drop s.off).take n).length = n := by
          rw [List.length_take, List.length_drop]
          omega
        refine ⟨rfl, rfl, rfl, .inl ⟨rfl, ?_, ?_, ?_, ?_, ?_⟩⟩
        · intro e0
          have : ((s.out.drop s.off).take n) = [] := e0
          rw [this] at hl
          simp at hl
          omega
        · show ((s.out.drop s.off).take n) = (s.out.drop (s.nxt - s.una)).take ((s.out.drop s.off).take n).length
          rw [hl]
          rfl
        · show s.nxt - s.una + ((s.out.drop s.off).take n).length ≤ s.out.length
          rw [hl]
          omega
        · show ((s.out.drop s.off).take n).length ≤ 128
          rw [hl]
          omega
        · show SentF _ _ _ _ _ _ (s.nxt + ((s.out.drop s.off).take n).length) ps x
          rw [hl]
          exact k1
      · rw [List.length_cons]
        by_cases h128 : n = 128
        · omega
        · -- what is sent is the last one
          have hx : x = s.nxt + n := by
            have hm2 : (s.send n).may ≤ 0 := by
              unfold TS.may
              rw [hout2, hoff2]
              show min (128 : Int) (min ((s.out.length : Int) - ((s.nxt + n - s.una : Nat) : Int)) (s.wnd - ((s.nxt + n - s.una : Nat) : Int))) ≤ 0
              omega
            cases f with
            | zero => omega
            | succ f =>
              have e2 : TS.pushL (f + 1) (s.send n) = s.send n := by
                show (if (s.send n).may ≤ 0 then s.send n else TS.pushL f ((s.send n).send (s.send n).may.toNat)) = _
                rw [if_pos hm2]
              rw [e2] at e
              have := congrArg TS.nxt e
              exact this.symm
          have hps : ps.length = 0 := by omega
          omega
theorem pushF_if (s : TS) (x : Nat) (ps : List Pk) : ({ s with nxt := x, top := max s.top x, pack := s.pack ++ ps } : TS).pushF = if s.shut = true ∧ s.over = false ∧ x - s.una = s.out.length then { s with nxt := x + 1, top := max (max s.top x) (x + 1), pack := (s.pack ++ ps) ++ [({ s with nxt := x, top := max s.top x, pack := s.pack ++ ps } : TS).mkp 6 (s.num x) []] } else { s with nxt := x, top := max s.top x, pack := s.pack ++ ps } := rfl
/-- What push sends. -/
theorem push_run (h3 : s.state = 3) (h1 : s.una ≤ s.nxt) (h2 : s.nxt ≤ s.top) (h4 : s.off ≤ s.out.length + (s.shut && !s.over).toNat) : ∃ ps x, s.push = { s with nxt := x, top := max s.top x, pack := s.pack ++ ps } ∧ s.Sent s.nxt ps x ∧ s.nxt ≤ x ∧ x ≤ s.una + s.out.length + (s.shut && !s.over).toNat ∧
    ((s.out.length : Int) ≤ s.wnd → x = s.una + s.out.length + (s.shut && !s.over).toNat) ∧ 128 * ps.length ≤ x - s.nxt + 255 ∧ (0 < s.may → s.nxt < x) := by
  have hoff : s.off = s.nxt - s.una := rfl
  obtain ⟨ps, x, e, k1, k2, k3, k3b, k5, k6, k7⟩ := pushL_run (s.out.length + 1) s h1 h2 (by omega)
  unfold TS.push
  rw [if_pos h3, e, pushF_if]
  have hbt : (s.shut && !s.over).toNat ≤ 1 := by cases (s.shut && !s.over) <;> decide
  by_cases hc : s.shut = true ∧ s.over = false ∧ x - s.una = s.out.length
  · obtain ⟨c1, c2, c3⟩ := hc
    have hf : (s.shut && !s.over) = true := by rw [c1, c2]; rfl
    have hft : (s.shut && !s.over).toNat = 1 := by rw [hf]; rfl
    rw [if_pos ⟨c1, c2, c3⟩]
    refine ⟨ps ++ [({ s with nxt := x, top := max s.top x, pack := s.pack ++ ps } : TS).mkp 6 (s.num x) []], x + 1, ?_, ?_, by omega, by omega, fun _ => by omega, ?_, fun e => by omega⟩
    · show ({ s with nxt := x + 1, top := max (max s.top x) (x + 1), pack := (s.pack ++ ps) ++ [_] } : TS) = _
      rw [List.append_assoc, show max (max s.top x) (x + 1) = max s.top (x + 1) by omega]
    · exact SentF.app ps k1 ⟨rfl, rfl, rfl, .inr ⟨rfl, rfl, by omega, hf, rfl⟩⟩
    · rw [List.length_append, List.length_singleton]
      omega
  · rw [if_neg (show ¬ (s.shut = true ∧ s.over = false ∧ _ = s.out.length) from hc)]
    refine ⟨ps, x, rfl, k1, k2, ?_, fun e => ?_, by omega, k7⟩
    · by_cases ho : s.off ≤ s.out.length
      · have := k3 ho
        omega
      · have := k3b (by omega)
        omega
    · by_cases ho : s.off ≤ s.out.length
      · have h5 : x = s.una + s.out.length := by
          have := k3 ho
          omega
        have hf : (s.shut && !s.over) = false := by
          cases hs : s.shut with
          | false => rfl
          | true =>
            cases hv : s.over with
            | true => rfl
            | false => exact absurd ⟨hs, hv, by omega⟩ hc
        rw [hf]
        exact h5
      · have := k3b (by omega)
        omega
/-- Where nothing waits to be sent, push sends nothing. -/
theorem push_idle (h : s.out = []) (hs : s.shut = false) : s.push = s := by
  unfold TS.push
  split
  · have hl : TS.pushL (s.out.length + 1) s = s := by
      show (if s.may ≤ 0 then s else TS.pushL s.out.length (s.send s.may.toNat)) = s
      rw [if_pos]
      unfold TS.may
      rw [h]
      show min (128 : Int) (min (((0 : Nat) : Int) - (s.off : Int)) _) ≤ 0
      omega
    rw [hl]
    unfold TS.pushF
    rw [if_neg]
    rintro ⟨e, _⟩
    rw [hs] at e
    cases e
  · rfl
theorem lead_empty (s : TS) (k N : Nat) : s.lead k (List.replicate N none) = k := by
  cases N <;> rfl
theorem lead_full (h : s.told = false) (N : Nat) : ∀ (d : List UInt8) (k : Nat), s.lead k (d.map some ++ List.replicate N none) = k + d.length
  | [], k => lead_empty s k N
  | x :: r, k => by
    show (if s.told = true ∧ s.rcv + k = s.fend then k else s.lead (k + 1) (r.map some ++ List.replicate N none)) = _
    rw [if_neg (by rw [h]; rintro ⟨e, _⟩; cases e), lead_full h N r (k + 1), List.length_cons]
    omega
theorem setL_none (d : List UInt8) (N : Nat) (h : d.length ≤ N) : setL (List.replicate N none) 0 d = d.map some ++ List.replicate (N - d.length) none := by
  apply List.ext_getElem?
  intro i
  rw [setL_get _ _ _ _ (by rw [List.length_replicate]; omega), List.getElem?_append, List.length_map]
  by_cases hi : i < d.length
  · rw [if_pos (by omega), if_pos hi, List.getElem?_map, Nat.sub_zero, List.getElem?_eq_getElem hi]
    rfl
  · rw [if_neg (by omega), if_neg hi, List.getElem?_replicate, List.getElem?_replicate]
    by_cases h2 : i < N
    · rw [if_pos h2, if_pos (by omega)]
    · rw [if_neg h2, if_neg (by omega)]
theorem keep_none {p : Pk} (hd : p.data = []) (h4 : hasF p 4 = false) : s.keep p = s := by
  unfold TS.keep
  rw [hd]
  dsimp only
  rw [if_neg (by rw [h4]; rintro ⟨e, _⟩; cases e)]
  have e : ∀ (k c : Nat), ((([] : List UInt8).drop c).take k) = [] := fun k c => by rw [List.drop_nil, List.take_nil]
  rw [e]
  rfl
theorem fill_none (ht : s.told = false) (he : s.early = List.replicate 1024 none) : s.fill = s := by
  unfold TS.fill
  have hl : s.lead 0 s.early = 0 := by rw [he]; exact lead_empty s 0 1024
  rw [hl]
  dsimp only
  rw [if_neg (by rw [ht]; rintro ⟨e, _⟩; cases e), List.take_zero, List.map_nil, List.append_nil, List.drop_zero, List.replicate_zero, List.append_nil]
  rfl
/-- Nothing has come ahead of its time. -/
def RQ (s : TS) : Prop := s.fin = true ∨ (s.fin = false ∧ s.told = false ∧ s.early = List.replicate 1024 none)
theorem talk2_none (h : s.RQ) {p : Pk} (hd : p.data = []) (h4 : hasF p 4 = false) : s.talk2 p = s := by
  unfold TS.talk2
  rcases h with h | ⟨h1, h2, h3⟩
  · rw [if_neg (by rw [h]; decide)]
  · rw [if_pos h1, keep_none hd h4, fill_none h2 h3]
/-- Bytes come that are expected. -/
theorem talk2_seg (hf : s.fin = false) (ht : s.told = false) (he : s.early = List.replicate 1024 none) (hi : s.inn = []) {p : Pk} (h4 : hasF p 4 = false) (hl : p.data.length ≤ 128) (h0 : p.data ≠ []) (hs : p.seq = s.rnum s.rcv) : s.talk2 p = { s with inn := p.data, rcv := s.rcv + p.data.length } := by
  have hlen : 0 < p.data.length := List.length_pos_iff.2 h0
  have hw : s.window = 1024 := by unfold TS.window; rw [hi]; rfl
  have hr : s.rnum s.rcv < 4294967296 := m32_lt _
  have hc : clip p.seq p.data.length (s.rnum s.rcv) s.window = (0, p.data.length) := by
    unfold TS.clip
    rw [hs, hw, sd_self, if_neg (by omega), if_neg (by omega)]
    have e1 : (max 0 (0 : Int)).toNat = 0 := rfl
    have e2 : (min ((p.data.length : Int) - max 0 0) (((1024 : Nat) : Int) - max 0 0)).toNat = p.data.length := by omega
    rw [e1, e2]
  have hat : (sd (m32 (p.seq + 0)) (s.rnum s.rcv)).toNat = 0 := by
    have : m32 (p.seq + 0) = s.rnum s.rcv := by
      rw [hs]
      unfold m32 at *
      omega
    rw [this, sd_self]
    rfl
  have hk : s.keep p = { s with early := p.data.map some ++ List.replicate (1024 - p.data.length) none } := by
    unfold TS.keep
    dsimp only
    rw [hc]
    dsimp only
    rw [if_neg (by rw [h4]; rintro ⟨e, _⟩; cases e), hat, List.drop_zero, List.take_length, he, setL_none _ _ (by omega)]
  unfold TS.talk2
  rw [if_pos hf, hk]
  unfold TS.fill
  dsimp only
  have hlead : ({ s with early := p.data.map some ++ List.replicate (1024 - p.data.length) none } : TS).lead 0 (p.data.map some ++ List.replicate (1024 - p.data.length) none) = p.data.length := by
    rw [lead_full (s := { s with early := p.data.map some ++ List.replicate (1024 - p.data.length) none }) ht]
    omega
  rw [hlead]
  have e1 : ((p.data.map some ++ List.replicate (1024 - p.data.length) none).take p.data.length).map (fun o : Option UInt8 => o.getD 0) = p.data := by
    rw [List.take_append_of_le_length (by rw [List.length_map]; omega), List.take_of_length_le (by rw [List.length_map]; omega), List.map_map]
    exact List.map_id _
  have e2 : (p.data.map some ++ List.replicate (1024 - p.data.length) none).drop p.data.length ++ List.replicate p.data.length none = s.early := by
    rw [he, List.drop_append, List.drop_of_length_le (by rw [List.length_map]; omega), List.length_map, Nat.sub_self, List.drop_zero, List.nil_append, List.replicate_append_replicate]
    congr 1
    omega
  rw [e1, e2, hi, List.nil_append, if_neg (by rw [ht]; rintro ⟨e, _⟩; cases e)]
/-- The end comes where it is expected. -/
theorem talk2_fin (hf : s.fin = false) (ht : s.told = false) (he : s.early = List.replicate 1024 none) {p : Pk} (h4 : hasF p 4 = true) (hd : p.data = []) (hs : p.seq = s.rnum s.rcv) : s.talk2 p = { s with told := true, fend := s.rcv, fin := true, rcv := s.rcv + 1 } := by
  have hk : s.keep p = { s with told := true, fend := s.rcv } := by
    unfold TS.keep
    rw [hd]
    dsimp only
    have e : ∀ (k c : Nat), ((([] : List UInt8).drop c).take k) = [] := fun k c => by rw [List.drop_nil, List.take_nil]
    rw [e]
    have hat : sd (m32 (p.seq + ([] : List UInt8).length)) (s.rnum s.rcv) = 0 := by
      have hr : s.rnum s.rcv < 4294967296 := m32_lt _
      have : m32 (p.seq + ([] : List UInt8).length) = s.rnum s.rcv := by
        rw [hs]
        show m32 (s.rnum s.rcv + 0) = _
        unfold m32 at *
        omega
      rw [this, sd_self]
    rw [hat, if_pos ⟨h4, ht, Int.le_refl 0, by omega⟩]
    rfl
  unfold TS.talk2
  rw [if_pos hf, hk]
  unfold TS.fill
  dsimp only
  have hl : ({ s with told := true, fend := s.rcv } : TS).lead 0 s.early = 0 := by rw [he]; exact lead_empty _ 0 1024
  rw [hl, if_pos ⟨rfl, rfl⟩, List.take_zero, List.map_nil, List.append_nil, List.drop_zero, List.replicate_zero, List.append_nil]
theorem fl_of {p : Pk} (h : p.fl = 2 ∨ p.fl = 6) : hasF p 8 = false ∧ hasF p 1 = false ∧ hasF p 2 = true := by
  rcases h with h | h <;> rw [hasFl h, hasFl h, hasFl h] <;> decide +kernel
theorem take_talk {p : Pk} (h : s.state = 3 ∨ (s.state = 2 ∧ p.ack = s.num 1)) (hok : okP p = true) (hfl : p.fl = 2 ∨ p.fl = 6) : s.take p = ({ s with idle := 0 } : TS).talk p := by
  obtain ⟨f8, f1, f2⟩ := fl_of hfl
  have hst : s.state = 3 ∨ s.state = 2 := h.imp id fun e => e.1
  unfold TS.take
  rw [if_neg (by
    rintro (e | e)
    · omega
    · rw [hok] at e; cases e)]
  dsimp only
  rw [if_neg (by omega), if_neg (by omega)]
  unfold TS.takes
  rw [if_neg (by rw [f8]; decide), if_neg (by rw [f1]; rintro ⟨e, _⟩; cases e), if_neg (by rw [f1]; decide), if_neg (by rw [f2]; decide), if_neg]
  rintro ⟨e1, e2⟩
  have e1 : s.state = 2 := e1
  rcases h with h | ⟨_, h⟩
  · omega
  · exact e2 h
theorem fits_at {p : Pk} (h : p.seq = s.rnum s.rcv) : s.fits p = true := by
  unfold TS.fits
  rw [decide_eq_true h]
  rfl
/-- A packet that only tells, just ahead of what is expected. -/
theorem fits_ahead {p : Pk} (hfl : p.fl = 2) (hd : p.data = []) (h : p.seq = s.rnum (s.rcv - 1)) (h1 : 1 ≤ s.rcv) : s.fits p = false := by
  unfold TS.fits
  have ht : takesN p.fl p.data.length = 0 := by rw [hfl, hd]; decide +kernel
  have hw : s.window ≤ 1024 := window_le s
  rw [ht]
  have hne : p.seq ≠ s.rnum s.rcv := by
    rw [h]
    unfold TS.rnum m32
    omega
  have hc : (clip p.seq 0 (s.rnum s.rcv) s.window).2 = 0 := by
    unfold TS.clip
    rw [if_pos (.inl rfl)]
  have hi : inN p.seq (s.rnum s.rcv) (s.window + 3) = false := by
    unfold TS.inN
    rw [decide_eq_false]
    rintro ⟨_, e⟩
    rw [h] at e
    unfold TS.rnum m32 at e
    omega
  simp only [decide_eq_false hne, hc, hi]
  rfl
theorem talk_fit {p : Pk} (hf : s.talk1.fits p = true) (hc : (s.talk1.credit p).1 = true) : s.talk p = ((((s.talk1.credit p).2.talk2 p).talk3 p).push).talk5 := by
  rw [talk_eq, if_neg (by rw [hf]; decide), if_neg (by rw [hc]; decide)]
theorem talk_unfit {p : Pk} (hf : s.talk1.fits p = false) : s.talk p = s.talk1.ack := by
  rw [talk_eq, if_pos hf]
end TS
end Go.Proofs.Ytjhnnnklfhbebaa
namespace Go.Proofs.Ytjhnnnklfhbebaa
open Go.RowKit
set_option linter.unusedVariables false
set_option linter.unusedSimpArgs false
/-- What is on its way to who reads: from v on, up to x; w: its weight. -/
def Ln (iss irs : Nat) (Wr : List UInt8) : Nat → List Pk → Nat → Nat → Prop
  | v, [], x, w => v = x ∧ w = 0
  | v, p :: r, x, w => p.ack = m32 (irs + 1) ∧ 1 ≤ v ∧ ((p.fl = 2 ∧ p.data = [] ∧ p.seq = m32 (iss + v) ∧ ∃ w', w = w' + 1 ∧ Ln iss irs Wr v r x w') ∨ (p.fl = 2 ∧ p.data = [] ∧ p.seq = m32 (iss + (v - 1)) ∧ ∃ w', w = w' + 2 ∧ Ln iss irs Wr v r x w') ∨
      (p.fl = 2 ∧ p.data ≠ [] ∧ p.data = (Wr.drop (v - 1)).take p.data.length ∧ v - 1 + p.data.length ≤ Wr.length ∧ p.data.length ≤ 128 ∧ p.seq = m32 (iss + v) ∧ ∃ w', w = w' + 2 ∧ Ln iss irs Wr (v + p.data.length) r x w') ∨
      (p.fl = 6 ∧ p.data = [] ∧ v = 1 + Wr.length ∧ p.seq = m32 (iss + v) ∧ ∃ w', w = w' + 2 ∧ Ln iss irs Wr (v + 1) r x w'))
/-- What is on its way back. -/
def B0 (iss irs : Nat) (Wr : List UInt8) (v : Nat) : Nat → List Pk → Nat → Prop
  | lo, [], w => lo ≤ v ∧ w = 0
  | lo, p :: r, w => p.fl = 2 ∧ p.data = [] ∧ 896 ≤ p.wn ∧ ∃ k w', lo ≤ k ∧ p.ack = m32 (iss + k) ∧ (1 + Wr.length : Int) ≤ (k : Int) + p.wn ∧ ((p.seq = m32 (irs + 1) ∧ w = w' + 1) ∨ (p.seq = m32 irs ∧ w = w' + 2)) ∧ B0 iss irs Wr v k r w'
section
variable {iss irs : Nat} {Wr : List UInt8}
theorem ln_len : ∀ (ps : List Pk) {v x w : Nat}, Ln iss irs Wr v ps x w → ps.length ≤ w ∧ v ≤ x
  | [], v, x, w, h => ⟨Nat.zero_le _, by have := h.1; omega⟩
  | p :: r, v, x, w, h => by
    obtain ⟨_, _, h⟩ := h
    rw [List.length_cons]
    rcases h with ⟨_, _, _, w', e, h⟩ | ⟨_, _, _, w', e, h⟩ | ⟨_, _, _, _, _, _, w', e, h⟩ | ⟨_, _, _, _, w', e, h⟩
    · have := ln_len r h
      omega
    · have := ln_len r h
      omega
    · have := ln_len r h
      omega
    · have := ln_len r h
      omega
theorem ln_app : ∀ (ps : List Pk) {qs : List Pk} {v y x w w2 : Nat}, Ln iss irs Wr v ps y w → Ln iss irs Wr y qs x w2 → Ln iss irs Wr v (ps ++ qs) x (w + w2)
  | [], qs, v, y, x, w, w2, h, k => by
    obtain ⟨rfl, rfl⟩ := h
    rw [Nat.zero_add]
    exact k
  | p :: r, qs, v, y, x, w, w2, h, k => by
    obtain ⟨h1, h2, h⟩ := h
    refine ⟨h1, h2, ?_⟩
    rcases h with ⟨a1, a2, a3, w', e, h⟩ | ⟨a1, a2, a3, w', e, h⟩ | ⟨a1, a2, a3, a4, a5, a6, w', e, h⟩ | ⟨a1, a2, a3, a4, w', e, h⟩
    · exact .inl ⟨a1, a2, a3, w' + w2, by omega, ln_app r h k⟩
    · exact .inr (.inl ⟨a1, a2, a3, w' + w2, by omega, ln_app r h k⟩)
    · exact .inr (.inr (.inl ⟨a1, a2, a3, a4, a5, a6, w' + w2, by omega, ln_app r h k⟩))
    · exact .inr (.inr (.inr ⟨a1, a2, a3, a4, w' + w2, by omega, ln_app r h k⟩))
/-- More is written. -/
theorem ln_more (b : List UInt8) : ∀ (ps : List Pk) {v x w : Nat}, x ≤ 1 + Wr.length → Ln iss irs Wr v ps x w → Ln iss irs (Wr ++ b) v ps x w
  | [], v, x, w, _, h => h
  | p :: r, v, x, w, hx, h => by
    obtain ⟨h1, h2, h⟩ := h
    refine ⟨h1, h2, ?_⟩
    rcases h with ⟨a1, a2, a3, w', e, h⟩ | ⟨a1, a2, a3, w', e, h⟩ | ⟨a1, a2, a3, a4, a5, a6, w', e, h⟩ | ⟨a1, a2, a3, a4, w', e, h⟩
    · exact .inl ⟨a1, a2, a3, w', e, ln_more b r hx h⟩
    · exact .inr (.inl ⟨a1, a2, a3, w', e, ln_more b r hx h⟩)
    · refine .inr (.inr (.inl ⟨a1, a2, ?_, ?_, a5, a6, w', e, ln_more b r hx h⟩))
      · rw [List.drop_append_of_le_length (by omega), List.take_append_of_le_length (by rw [List.length_drop]; omega)]
        exact a3
      · rw [List.length_append]
        omega
    · exfalso
      have := (ln_len r h).2
      omega
theorem b0_len {v : Nat} : ∀ (ps : List Pk) {lo w : Nat}, B0 iss irs Wr v lo ps w → ps.length ≤ w ∧ lo ≤ v
  | [], lo, w, h => ⟨Nat.zero_le _, h.1⟩
  | p :: r, lo, w, h => by
    obtain ⟨_, _, _, k, w', h1, _, _, h2, h3⟩ := h
    have := b0_len r h3
    rw [List.length_cons]
    omega
theorem b0_lo {v : Nat} : ∀ (ps : List Pk) {lo lo' w : Nat}, lo' ≤ lo → B0 iss irs Wr v lo ps w → B0 iss irs Wr v lo' ps w
  | [], lo, lo', w, hl, h => ⟨by have := h.1; omega, h.2⟩
  | p :: r, lo, lo', w, hl, h => by
    obtain ⟨a1, a2, a3, k, w', h1, h2⟩ := h
    exact ⟨a1, a2, a3, k, w', by omega, h2⟩
theorem b0_hi {v v' : Nat} (hv : v ≤ v') : ∀ (ps : List Pk) {lo w : Nat}, B0 iss irs Wr v lo ps w → B0 iss irs Wr v' lo ps w
  | [], lo, w, h => ⟨by have := h.1; omega, h.2⟩
  | p :: r, lo, w, h => by
    obtain ⟨a1, a2, a3, k, w', h1, h2, h3, h4, h5⟩ := h
    exact ⟨a1, a2, a3, k, w', h1, h2, h3, h4, b0_hi hv r h5⟩
/-- One more is on its way back. -/
theorem b0_snoc {v d : Nat} {q : Pk} (q1 : q.fl = 2) (q2 : q.data = []) (q3 : 896 ≤ q.wn) (q4 : q.ack = m32 (iss + v)) (q5 : (1 + Wr.length : Int) ≤ (v : Int) + q.wn) (q6 : (q.seq = m32 (irs + 1) ∧ d = 1) ∨ (q.seq = m32 irs ∧ d = 2)) : ∀ (ps : List Pk) {lo w : Nat}, B0 iss irs Wr v lo ps w → B0 iss irs Wr v lo (ps ++ [q]) (w + d)
  | [], lo, w, h => by
    obtain ⟨h1, rfl⟩ := h
    refine ⟨q1, q2, q3, v, 0, h1, q4, q5, ?_, Nat.le_refl _, rfl⟩
    rcases q6 with ⟨a, b⟩ | ⟨a, b⟩
    · exact .inl ⟨a, by omega⟩
    · exact .inr ⟨a, by omega⟩
  | p :: r, lo, w, h => by
    obtain ⟨a1, a2, a3, k, w', h1, h2, h3, h4, h5⟩ := h
    refine ⟨a1, a2, a3, k, w' + d, h1, h2, h3, ?_, b0_snoc q1 q2 q3 q4 q5 q6 r h5⟩
    rcases h4 with ⟨a, b⟩ | ⟨a, b⟩
    · exact .inl ⟨a, by omega⟩
    · exact .inr ⟨a, by omega⟩
/-- What push has sent is on its way. -/
theorem sent_ln {a u : Nat} (w0 : Nat) {fin : Bool} (ha : a = m32 (irs + 1)) (hu : 1 ≤ u) (hul : u ≤ 1 + Wr.length) : ∀ (ps : List Pk) {v x : Nat}, u ≤ v → SentF iss a w0 u (Wr.drop (u - 1)) fin v ps x → Ln iss irs Wr v ps x (2 * ps.length)
  | [], v, x, hv, h => ⟨h, rfl⟩
  | p :: r, v, x, hv, h => by
    obtain ⟨h1, h2, h3, h4⟩ := h
    refine ⟨by rw [h2, ha], by omega, ?_⟩
    rw [List.length_drop] at h4
    rcases h4 with ⟨a1, a2, a3, a4, a5, a6⟩ | ⟨a1, a2, a3, a4, a5⟩
    · refine .inr (.inr (.inl ⟨a1, a2, ?_, by omega, a5, h1, 2 * r.length, by rw [List.length_cons]; omega, sent_ln w0 ha hu hul r (by omega) a6⟩))
      rw [List.drop_drop, show u - 1 + (v - u) = v - 1 by omega] at a3
      exact a3
    · exact .inr (.inr (.inr ⟨a1, a2, by omega, h1, 2 * r.length, by rw [List.length_cons]; omega, sent_ln w0 ha hu hul r (by omega) a5⟩))
end
/-- Who writes. -/
structure LA (iss irs : Nat) (Wr : List UInt8) (s : TS) (u x : Nat) : Prop where
  st : s.state = 3
  nm : s.iss = iss
  ir : s.irs = irs
  rcv : s.rcv = 1
  inn : s.inn = []
  fin : s.fin = false
  told : s.told = false
  early : s.early = List.replicate 1024 none
  una : s.una = u
  nxt : s.nxt = x
  top : s.top = x
  u1 : 1 ≤ u
  ux : u ≤ x
  out : s.out = Wr.drop (u - 1)
  xE : x ≤ 1 + Wr.length + s.shut.toNat
  ov : s.over = decide (u = 2 + Wr.length)
  lim : Wr.length ≤ u + 1023
  big : Wr.length ≤ 1000000
  wnd : 896 ≤ s.wnd
/-- Who reads. -/
structure LB (iss irs : Nat) (Wr : List UInt8) (t : TS) (v : Nat) (rd : List UInt8) : Prop where
  st : t.state = 3 ∨ t.state = 2
  nm : t.iss = irs
  ir : t.irs = iss
  out : t.out = []
  shut : t.shut = false
  over : t.over = false
  top : t.top = 1
  una : t.state = 3 → t.una = 1 ∧ t.nxt = 1
  inn : t.inn = []
  rcv : t.rcv = v
  rq : (t.fin = false ∧ t.told = false ∧ t.early = List.replicate 1024 none ∧ v = 1 + rd.length) ∨ (t.fin = true ∧ v = 2 + rd.length ∧ rd.length = Wr.length)
  rdw : rd = Wr.take rd.length
  rdl : rd.length ≤ Wr.length
theorem sent_nil {i a w u : Nat} {out : List UInt8} {fin : Bool} {ps : List Pk} {v : Nat} (h : SentF i a w u out fin v ps v) : ps = [] := by
  cases ps with
  | nil => rfl
  | cons q r =>
    exfalso
    obtain ⟨_, _, _, hq⟩ := h
    rcases hq with ⟨_, hq, _, _, _, hl⟩ | ⟨_, _, _, _, hl⟩
    · have : 0 < q.data.length := List.length_pos_iff.2 hq
      have := sent_le r hl
      omega
    · have := sent_le r hl
      omega
namespace TS
variable {s t : TS} {iss irs u v x : Nat} {Wr rd : List UInt8} {p : Pk}
theorem sum_tn (a b i : Nat) (h1 : a ≤ 2000000) (h2 : b ≤ 2000000) : sd (m32 (i + a)) (m32 (i + b)) = (a : Int) - b := sd_num i a b (by omega) (by omega)
/-- An acknowledgement comes. -/
theorem la_fit (h : LA iss irs Wr s u x) (hok : okP p = true) (hfl : p.fl = 2) (hd : p.data = []) (hs : p.seq = m32 (irs + 1)) {k : Nat} (hk : u ≤ k) (hkx : k ≤ x) (ha : p.ack = m32 (iss + k)) (hw : (1 + Wr.length : Int) ≤ (k : Int) + p.wn) (hw2 : 896 ≤ p.wn) (hpk : s.pack = []) :
    LA iss irs Wr (s.take p).empty k (1 + Wr.length + s.shut.toNat) ∧ (s.take p).shut = s.shut ∧ (s.take p).idle = 0 ∧ (s.take p).state = 3 ∧ Ln iss irs Wr x (s.take p).pack (1 + Wr.length + s.shut.toNat) (2 * (s.take p).pack.length) ∧ 128 * (s.take p).pack.length ≤ (1 + Wr.length + s.shut.toNat - x) + 255 ∧ (x = 1 + Wr.length + s.shut.toNat → (s.take p).pack = []) := by
  have hsh : s.shut.toNat ≤ 1 := by cases s.shut <;> decide
  have hu1 := h.u1
  have hux := h.ux
  have hxE := h.xE
  have hlim := h.lim
  have hbig := h.big
  rw [take_talk (.inl h.st) hok (.inl hfl)]
  have ht1 : ({ s with idle := 0 } : TS).talk1 = { s with idle := 0 } := by
    unfold TS.talk1
    rw [if_neg (by rw [h.st]; decide)]
  have hfit : ({ s with idle := 0 } : TS).talk1.fits p = true := by
    rw [ht1]
    apply fits_at
    show p.seq = m32 (s.irs + s.rcv)
    rw [hs, h.ir, h.rcv]
  have hol : s.out.length = Wr.length - (u - 1) := by rw [h.out, List.length_drop]
  -- the credit
  have hcr : ∃ tries timer sent, ({ s with idle := 0 } : TS).credit p = (true, { s with idle := 0, wnd := p.wn, tries := tries, timer := timer, sent := sent, over := decide (k = 2 + Wr.length), out := Wr.drop (k - 1), una := k }) := by
    have e1 : sd p.ack (({ s with idle := 0 } : TS).num s.top) = (k : Int) - x := by
      show sd p.ack (m32 (s.iss + s.top)) = _
      rw [ha, h.nm, h.top]
      exact sum_tn k x iss (by omega) (by omega)
    have e2 : sd p.ack (({ s with idle := 0 } : TS).num s.una) = (k : Int) - u := by
      show sd p.ack (m32 (s.iss + s.una)) = _
      rw [ha, h.nm, h.una]
      exact sum_tn k u iss (by omega) (by omega)
    unfold TS.credit
    show ∃ tries timer sent, (if 0 < sd p.ack (({ s with idle := 0 } : TS).num s.top) then _ else if sd p.ack (({ s with idle := 0 } : TS).num s.una) < 0 then _ else if sd p.ack (({ s with idle := 0 } : TS).num s.una) = 0 then _ else _) = _
    rw [e1, e2, if_neg (by omega), if_neg (by omega)]
    by_cases hku : k = u
    · rw [if_pos (by omega)]
      refine ⟨0, s.timer, s.sent, ?_⟩
      rw [hku, ← h.ov, ← h.out, ← h.una]
    · rw [if_neg (by omega)]
      have e3 : ((k : Int) - u).toNat = k - u := by omega
      rw [e3]
      refine ⟨0, 0, s.sent + min (k - u) s.out.length, ?_⟩
      have o1 : (s.over || decide (min (k - u) s.out.length < k - u)) = decide (k = 2 + Wr.length) := by
        have : s.over = false := by
          rw [h.ov, decide_eq_false]
          omega
        rw [this, Bool.false_or]
        by_cases hz : k = 2 + Wr.length
        · rw [decide_eq_true hz, decide_eq_true (by omega)]
        · rw [decide_eq_false hz, decide_eq_false (by omega)]
      have o2 : s.out.drop (min (k - u) s.out.length) = Wr.drop (k - 1) := by
        rw [h.out, List.drop_drop]
        by_cases hz : k - u ≤ s.out.length
        · rw [← h.out, Nat.min_eq_left hz]
          congr 1
          omega
        · rw [← h.out, Nat.min_eq_right (by omega), List.drop_of_length_le (by omega), List.drop_of_length_le (by omega)]
      have o3 : s.una + (k - u) = k := by rw [h.una]; omega
      have o4 : max s.nxt (s.una + (k - u)) = s.nxt := by rw [h.nxt, h.una]; omega
      show (true, _) = _
      rw [show (({ s with idle := 0 } : TS).over || decide (min (k - u) ({ s with idle := 0 } : TS).out.length < k - u)) = _ from o1, show ({ s with idle := 0 } : TS).out.drop (min (k - u) ({ s with idle := 0 } : TS).out.length) = _ from o2, show ({ s with idle := 0 } : TS).una + (k - u) = _ from o3, show max ({ s with idle := 0 } : TS).nxt k = s.nxt by rw [← o3]; exact o4]
  obtain ⟨tries, timer, sent, hcr⟩ := hcr
  rw [talk_fit hfit (by rw [ht1, hcr]), ht1, hcr]
  obtain ⟨s2, hs2⟩ : ∃ s2 : TS, s2 = { s with idle := 0, wnd := p.wn, tries := tries, timer := timer, sent := sent, over := decide (k = 2 + Wr.length), out := Wr.drop (k - 1), una := k } := ⟨_, rfl⟩
  show _ ∧ (((TS.talk2 _ p).talk3 p).push.talk5.shut = s.shut) ∧ _
  rw [← hs2]
  have hrq : s2.RQ := by rw [hs2]; exact .inr ⟨h.fin, h.told, h.early⟩
  have h4 : hasF p 4 = false := by rw [hasFl hfl]; decide +kernel
  rw [talk2_none hrq hd h4]
  have htk : takesN p.fl p.data.length = 0 := by rw [hfl, hd]; decide +kernel
  have h3 : s2.talk3 p = s2 := by
    unfold TS.talk3
    rw [htk, if_neg (by decide)]
  rw [h3]
  have hb : (s2.shut && !s2.over).toNat = 1 + Wr.length + s.shut.toNat - (k + (Wr.length - (k - 1))) := by
    rw [hs2]
    show (s.shut && !decide (k = 2 + Wr.length)).toNat = _
    by_cases hz : k = 2 + Wr.length
    · rw [decide_eq_true hz]
      cases hsx : s.shut with
      | true =>
        show (0 : Nat) = 1 + Wr.length + 1 - _
        omega
      | false =>
        show (0 : Nat) = 1 + Wr.length + 0 - _
        omega
    · rw [decide_eq_false hz]
      cases hsx : s.shut with
      | true =>
        show (1 : Nat) = 1 + Wr.length + 1 - _
        rw [hsx] at hxE
        have hxE : x ≤ 1 + Wr.length + 1 := hxE
        omega
      | false =>
        show (0 : Nat) = 1 + Wr.length + 0 - _
        rw [hsx] at hxE
        have hxE : x ≤ 1 + Wr.length + 0 := hxE
        omega
  have hol2 : s2.out.length = Wr.length - (k - 1) := by rw [hs2]; exact List.length_drop
  have hun2 : s2.una = k := by rw [hs2]
  have hnx2 : s2.nxt = x := by rw [hs2]; exact h.nxt
  have hoff : s2.off = x - k := by
    unfold TS.off
    rw [hun2, hnx2]
  obtain ⟨ps, y, e, r1, r2, r3, r4, r5, r6⟩ := push_run (s := s2) (by rw [hs2]; exact h.st) (by rw [hun2, hnx2]; omega) (by rw [hs2]; show s.nxt ≤ s.top; rw [h.nxt, h.top]; exact Nat.le_refl _) (by
    rw [hoff, hol2, hb]
    omega)
  have hy : y = 1 + Wr.length + s.shut.toNat := by
    have := r4 (by
      rw [hol2, hs2]
      show ((Wr.length - (k - 1) : Nat) : Int) ≤ p.wn
      omega)
    rw [hun2, hol2, hb] at this
    omega
  have hpk2 : s2.pack = [] := by rw [hs2]; exact hpk
  have htop : max s2.top y = y := by
    rw [hs2]
    show max s.top y = y
    rw [h.top]
    rw [hnx2] at r2
    omega
  rw [e, hpk2, List.nil_append, htop]
  have hfin2 : s2.fin = false := by rw [hs2]; exact h.fin
  have h5 : ({ s2 with nxt := y, top := y, pack := ps } : TS).talk5 = { s2 with nxt := y, top := y, pack := ps } := by
    unfold TS.talk5
    rw [if_neg]
    rintro ⟨e, _⟩
    have e : s2.fin = true := e
    rw [hfin2] at e
    cases e
  rw [h5]
  subst hy
  rw [hnx2] at r1 r5
  have hln : Ln iss irs Wr x ps (1 + Wr.length + s.shut.toNat) (2 * ps.length) := by
    by_cases hz : k ≤ 1 + Wr.length
    · unfold TS.Sent at r1
      rw [hun2, show s2.out = Wr.drop (k - 1) by rw [hs2], show s2.iss = iss by rw [hs2]; exact h.nm] at r1
      refine sent_ln s2.window ?_ (by omega) hz ps hkx r1
      rw [hs2]
      show m32 (s.irs + s.rcv) = m32 (irs + 1)
      rw [h.ir, h.rcv]
    · have hxx : x = 1 + Wr.length + s.shut.toNat := by omega
      have hps : ps = [] := by
        cases ps with
        | nil => rfl
        | cons q r =>
          exfalso
          obtain ⟨_, _, _, hq⟩ := r1
          rcases hq with ⟨_, hq, _, hl, _⟩ | ⟨_, _, _, _, hq⟩
          · have : 0 < q.data.length := List.length_pos_iff.2 hq
            omega
          · have := sent_le r hq
            omega
      rw [hps]
      exact ⟨hxx, rfl⟩
  refine ⟨⟨?_, ?_, ?_, ?_, ?_, ?_, ?_, ?_, ?_, rfl, rfl, by omega, by omega, ?_, ?_, ?_, by omega, hbig, ?_⟩, ?_, ?_, ?_, hln, r5, fun e => sent_nil (by rw [← e] at r1; exact r1)⟩
  · show s2.state = 3
    rw [hs2]
    exact h.st
  · show s2.iss = iss
    rw [hs2]
    exact h.nm
  · show s2.irs = irs
    rw [hs2]
    exact h.ir
  · show s2.rcv = 1
    rw [hs2]
    exact h.rcv
  · show s2.inn = []
    rw [hs2]
    exact h.inn
  · exact hfin2
  · show s2.told = false
    rw [hs2]
    exact h.told
  · show s2.early = _
    rw [hs2]
    exact h.early
  · exact hun2
  · show s2.out = _
    rw [hs2]
  · show 1 + Wr.length + s.shut.toNat ≤ 1 + Wr.length + s2.shut.toNat
    rw [hs2]
    exact Nat.le_refl _
  · show s2.over = _
    rw [hs2]
  · show 896 ≤ s2.wnd
    rw [hs2]
    exact hw2
  · show s2.shut = s.shut
    rw [hs2]
  · show s2.idle = 0
    rw [hs2]
  · show s2.state = 3
    rw [hs2]
    exact h.st
end TS
end Go.Proofs.Ytjhnnnklfhbebaa
namespace Go.Proofs.Ytjhnnnklfhbebaa
open Go.RowKit
set_option linter.unusedVariables false
set_option linter.unusedSimpArgs false
section
variable {s t : TS} {iss irs u v x : Nat} {Wr rd : List UInt8} {p : Pk}
/-- Other timers, another window of the sender's: who writes stays who it is. -/
theorem LA.of (h : LA iss irs Wr s u x) {s' : TS} (e1 : s'.state = s.state) (e2 : s'.iss = s.iss) (e3 : s'.irs = s.irs) (e4 : s'.rcv = s.rcv) (e5 : s'.inn = s.inn) (e6 : s'.fin = s.fin) (e7 : s'.told = s.told) (e8 : s'.early = s.early) (e9 : s'.una = s.una) (e10 : s'.nxt = s.nxt) (e11 : s'.top = s.top) (e12 : s'.out = s.out) (e13 : s'.over = s.over) (e14 : s'.wnd = s.wnd) (e15 : s'.shut = s.shut) : LA iss irs Wr s' u x :=
  ⟨by rw [e1]; exact h.st, by rw [e2]; exact h.nm, by rw [e3]; exact h.ir, by rw [e4]; exact h.rcv, by rw [e5]; exact h.inn, by rw [e6]; exact h.fin, by rw [e7]; exact h.told, by rw [e8]; exact h.early, by rw [e9]; exact h.una, by rw [e10]; exact h.nxt, by rw [e11]; exact h.top, h.u1, h.ux, by rw [e12]; exact h.out, by rw [e15]; exact h.xE, by rw [e13]; exact h.ov, h.lim, h.big, by rw [e14]; exact h.wnd⟩
theorem LB.of (h : LB iss irs Wr t v rd) {s' : TS} (e1 : s'.state = t.state) (e2 : s'.iss = t.iss) (e3 : s'.irs = t.irs) (e4 : s'.rcv = t.rcv) (e5 : s'.inn = t.inn) (e6 : s'.fin = t.fin) (e7 : s'.told = t.told) (e8 : s'.early = t.early) (e9 : s'.una = t.una) (e10 : s'.nxt = t.nxt) (e11 : s'.top = t.top) (e12 : s'.out = t.out) (e13 : s'.over = t.over) (e15 : s'.shut = t.shut) : LB iss irs Wr s' v rd :=
  ⟨by rw [e1]; exact h.st, by rw [e2]; exact h.nm, by rw [e3]; exact h.ir, by rw [e12]; exact h.out, by rw [e15]; exact h.shut, by rw [e13]; exact h.over, by rw [e11]; exact h.top, by rw [e1, e9, e10]; exact h.una, by rw [e5]; exact h.inn, by rw [e4]; exact h.rcv, by rw [e6, e7, e8]; exact h.rq, h.rdw, h.rdl⟩
end
namespace TS
variable {s t : TS} {iss irs u v x : Nat} {Wr rd : List UInt8} {p : Pk}
/-- The other one asks whether it is there. -/
theorem la_ka (h : LA iss irs Wr s u x) (hok : okP p = true) (hfl : p.fl = 2) (hd : p.data = []) (hs : p.seq = m32 irs) (hpk : s.pack = []) :
    LA iss irs Wr (s.take p).empty u x ∧ (s.take p).shut = s.shut ∧ (s.take p).idle = 0 ∧ (s.take p).state = 3 ∧ ∃ q, (s.take p).pack = [q] ∧ q.fl = 2 ∧ q.data = [] ∧ q.seq = m32 (iss + x) ∧ q.ack = m32 (irs + 1) := by
  rw [take_talk (.inl h.st) hok (.inl hfl)]
  have ht1 : ({ s with idle := 0 } : TS).talk1 = { s with idle := 0 } := by
    unfold TS.talk1
    rw [if_neg (by rw [h.st]; decide)]
  rw [talk_unfit (by
    rw [ht1]
    refine fits_ahead hfl hd ?_ (by show 1 ≤ s.rcv; rw [h.rcv]; exact Nat.le_refl 1)
    show p.seq = m32 (s.irs + (s.rcv - 1))
    rw [h.ir, h.rcv]
    exact hs), ht1]
  refine ⟨h.of rfl rfl rfl rfl rfl rfl rfl rfl rfl rfl rfl rfl rfl rfl rfl, rfl, rfl, h.st, ({ s with idle := 0 } : TS).mkp 2 (m32 (s.iss + s.top)) [], ?_, rfl, rfl, ?_, ?_⟩
  · show s.pack ++ [_] = _
    rw [hpk]
    rfl
  · show m32 (s.iss + s.top) = m32 (iss + x)
    rw [h.nm, h.top]
  · show m32 (s.irs + s.rcv) = m32 (irs + 1)
    rw [h.ir, h.rcv]
end TS
section
variable {s t : TS} {iss irs u v x : Nat} {Wr rd : List UInt8} {p : Pk}
theorem LB.idle0 (h : LB iss irs Wr t v rd) : LB iss irs Wr ({ t with idle := 0 } : TS) v rd := h.of rfl rfl rfl rfl rfl rfl rfl rfl rfl rfl rfl rfl rfl rfl
end
namespace TS
variable {s t : TS} {iss irs u v x : Nat} {Wr rd : List UInt8} {p : Pk}
end TS
section
variable {s t : TS} {iss irs u v x : Nat} {Wr rd : List UInt8} {p : Pk}
/-- Who reads is asked no more. -/
theorem LB.talk1 (h : LB iss irs Wr t v rd) : LB iss irs Wr t.talk1 v rd ∧ t.talk1.state = 3 ∧ t.talk1.pack = t.pack ∧ t.talk1.idle = t.idle := by
  unfold TS.talk1
  split
  · exact ⟨⟨.inl rfl, h.nm, h.ir, h.out, h.shut, h.over, h.top, fun _ => ⟨rfl, rfl⟩, h.inn, h.rcv, h.rq, h.rdw, h.rdl⟩, rfl, rfl, rfl⟩
  · rename_i h2
    have := h.st
    exact ⟨h, by omega, rfl, rfl⟩
end
namespace TS
variable {s t : TS} {iss irs u v x : Nat} {Wr rd : List UInt8} {p : Pk}
theorem lb_take (h : LB iss irs Wr t v rd) (hok : okP p = true) (hfl : p.fl = 2 ∨ p.fl = 6) (ha : p.ack = m32 (irs + 1)) : t.take p = ({ t with idle := 0 } : TS).talk p := by
  refine take_talk (h.st.imp id fun e => ⟨e, ?_⟩) hok hfl
  rw [ha]
  show _ = m32 (t.iss + 1)
  rw [h.nm]
theorem lb_credit (h : LB iss irs Wr t v rd) (h3 : t.state = 3) (ha : p.ack = m32 (irs + 1)) : t.credit p = (true, { t with wnd := p.wn, tries := 0 }) := by
  obtain ⟨h1, h2⟩ := h.una h3
  have e1 : sd p.ack (t.num t.top) = 0 := by
    show sd p.ack (m32 (t.iss + t.top)) = 0
    rw [ha, h.nm, h.top, sd_self]
  have e2 : sd p.ack (t.num t.una) = 0 := by
    show sd p.ack (m32 (t.iss + t.una)) = 0
    rw [ha, h.nm, h1, sd_self]
  unfold TS.credit
  rw [e1, e2, if_neg (by decide), if_neg (by decide), if_pos rfl]
end TS
section
variable {s t : TS} {iss irs u v x : Nat} {Wr rd : List UInt8} {p : Pk}
theorem LB.talk5 (h : LB iss irs Wr t v rd) : t.talk5 = t := by
  unfold TS.talk5
  rw [if_neg]
  rintro ⟨_, e⟩
  rw [h.over] at e
  cases e
end
namespace TS
variable {s t : TS} {iss irs u v x : Nat} {Wr rd : List UInt8} {p : Pk}
end TS
section
variable {s t : TS} {iss irs u v x : Nat} {Wr rd : List UInt8} {p : Pk}
theorem LB.RQ (h : LB iss irs Wr t v rd) : t.RQ := by
  rcases h.rq with ⟨a, b, c, _⟩ | ⟨a, _⟩
  · exact .inr ⟨a, b, c⟩
  · exact .inl a
end
namespace TS
variable {s t : TS} {iss irs u v x : Nat} {Wr rd : List UInt8} {p : Pk}
/-- What there is told comes where it is expected. -/
theorem lb_fit (h : LB iss irs Wr t v rd) (hok : okP p = true) (hfl : p.fl = 2) (hd : p.data = []) (hs : p.seq = m32 (iss + v)) (ha : p.ack = m32 (irs + 1)) (hpk : t.pack = []) :
    LB iss irs Wr (t.take p) v rd ∧ (t.take p).state = 3 ∧ (t.take p).idle = 0 ∧ (t.take p).pack = [] := by
  rw [lb_take h hok (.inl hfl) ha]
  obtain ⟨h1, h2, h3, h4⟩ := h.idle0.talk1
  obtain ⟨t1, ht1⟩ : ∃ t1, ({ t with idle := 0 } : TS).talk1 = t1 := ⟨_, rfl⟩
  have hcr := lb_credit h1 h2 ha
  rw [talk_fit (by
    apply fits_at
    show p.seq = m32 (_ + _)
    rw [h1.ir, h1.rcv]
    exact hs) (by rw [hcr]), hcr]
  rw [ht1] at h1 h2 h3 h4 ⊢
  have h5 : LB iss irs Wr ({ t1 with wnd := p.wn, tries := 0 } : TS) v rd := h1.of rfl rfl rfl rfl rfl rfl rfl rfl rfl rfl rfl rfl rfl rfl
  have hf4 : hasF p 4 = false := by rw [hasFl hfl]; decide +kernel
  show LB iss irs Wr (((TS.talk2 _ p).talk3 p).push.talk5) v rd ∧ _
  dsimp only
  rw [talk2_none h5.RQ hd hf4]
  have htk : takesN p.fl p.data.length = 0 := by rw [hfl, hd]; decide +kernel
  have h6 : ({ t1 with wnd := p.wn, tries := 0 } : TS).talk3 p = { t1 with wnd := p.wn, tries := 0 } := by
    unfold TS.talk3
    rw [htk, if_neg (by decide)]
  rw [h6, push_idle h5.out h5.shut, h5.talk5]
  exact ⟨h5, h2, h4, by show t1.pack = []; rw [h3]; exact hpk⟩
/-- It is asked whether it is there. -/
theorem lb_ka (h : LB iss irs Wr t v rd) (hok : okP p = true) (hfl : p.fl = 2) (hd : p.data = []) (hv : 1 ≤ v) (hs : p.seq = m32 (iss + (v - 1))) (ha : p.ack = m32 (irs + 1)) (hpk : t.pack = []) :
    LB iss irs Wr (t.take p).empty v rd ∧ (t.take p).state = 3 ∧ (t.take p).idle = 0 ∧ ∃ q, (t.take p).pack = [q] ∧ q.fl = 2 ∧ q.data = [] ∧ q.seq = m32 (irs + 1) ∧ q.ack = m32 (iss + v) ∧ q.wn = 1024 := by
  rw [lb_take h hok (.inl hfl) ha]
  obtain ⟨h1, h2, h3, h4⟩ := h.idle0.talk1
  obtain ⟨t1, ht1⟩ : ∃ t1, ({ t with idle := 0 } : TS).talk1 = t1 := ⟨_, rfl⟩
  rw [talk_unfit (by
    refine fits_ahead hfl hd ?_ (by rw [h1.rcv]; exact hv)
    show p.seq = m32 (_ + _)
    rw [h1.ir, h1.rcv]
    exact hs)]
  rw [ht1] at h1 h2 h3 h4 ⊢
  refine ⟨h1.of rfl rfl rfl rfl rfl rfl rfl rfl rfl rfl rfl rfl rfl rfl, h2, h4, t1.mkp 2 (m32 (t1.iss + t1.top)) [], ?_, rfl, rfl, ?_, ?_, ?_⟩
  · show t1.pack ++ [_] = _
    rw [h3]
    show t.pack ++ _ = _
    rw [hpk]
    rfl
  · show m32 (t1.iss + t1.top) = _
    rw [h1.nm, h1.top]
  · show m32 (t1.irs + t1.rcv) = _
    rw [h1.ir, h1.rcv]
  · show ((1024 - t1.inn.length : Nat) : Int) = 1024
    rw [h1.inn]
    rfl
/-- Bytes come. -/
theorem lb_seg (h : LB iss irs Wr t v rd) (hok : okP p = true) (hfl : p.fl = 2) (hd : p.data ≠ []) (hl : p.data.length ≤ 128) (hv : 1 ≤ v) (hdw : p.data = (Wr.drop (v - 1)).take p.data.length) (hvl : v - 1 + p.data.length ≤ Wr.length) (hs : p.seq = m32 (iss + v)) (ha : p.ack = m32 (irs + 1)) (hpk : t.pack = []) :
    ∃ t2 : TS, LB iss irs Wr t2 (v + p.data.length) (rd ++ p.data) ∧ t2.state = 3 ∧ t2.idle = 0 ∧ t2.got = t.got ∧ (∃ q, t.take p = { t2 with inn := p.data, pack := [q] } ∧ q.fl = 2 ∧ q.data = [] ∧ q.seq = m32 (irs + 1) ∧ q.ack = m32 (iss + (v + p.data.length)) ∧ q.wn = 1024 - (p.data.length : Int)) := by
  have hlen : 0 < p.data.length := List.length_pos_iff.2 hd
  rw [lb_take h hok (.inl hfl) ha]
  obtain ⟨h1, h2, h3, h4⟩ := h.idle0.talk1
  have hgot : ({ t with idle := 0 } : TS).talk1.got = t.got := by
    unfold TS.talk1
    split <;> rfl
  obtain ⟨t1, ht1⟩ : ∃ t1, ({ t with idle := 0 } : TS).talk1 = t1 := ⟨_, rfl⟩
  have hcr := lb_credit h1 h2 ha
  rw [talk_fit (by
    apply fits_at
    show p.seq = m32 (_ + _)
    rw [h1.ir, h1.rcv]
    exact hs) (by rw [hcr]), hcr]
  rw [ht1] at h1 h2 h3 h4 hgot ⊢
  have h5 : LB iss irs Wr ({ t1 with wnd := p.wn, tries := 0 } : TS) v rd := h1.of rfl rfl rfl rfl rfl rfl rfl rfl rfl rfl rfl rfl rfl rfl
  have hf4 : hasF p 4 = false := by rw [hasFl hfl]; decide +kernel
  have hnf : t1.fin = false ∧ t1.told = false ∧ t1.early = List.replicate 1024 none ∧ v = 1 + rd.length := by
    rcases h1.rq with e | ⟨_, e1, e2⟩
    · exact e
    · omega
  obtain ⟨n1, n2, n3, n4⟩ := hnf
  dsimp only
  rw [talk2_seg (s := { t1 with wnd := p.wn, tries := 0 }) n1 n2 n3 h1.inn hf4 hl hd (by
    show p.seq = m32 (t1.irs + t1.rcv)
    rw [h1.ir, h1.rcv]
    exact hs)]
  have htk : 0 < takesN p.fl p.data.length := by unfold takesN; omega
  unfold TS.talk3
  rw [if_pos htk]
  obtain ⟨t2, ht2⟩ : ∃ t2 : TS, t2 = { t1 with wnd := p.wn, tries := 0, rcv := t1.rcv + p.data.length, inn := [], pack := [] } := ⟨_, rfl⟩
  have hB : LB iss irs Wr t2 (v + p.data.length) (rd ++ p.data) := by
    have hrl : (rd ++ p.data).length = rd.length + p.data.length := List.length_append
    refine ⟨by rw [ht2]; exact .inl h2, by rw [ht2]; exact h1.nm, by rw [ht2]; exact h1.ir, by rw [ht2]; exact h1.out, by rw [ht2]; exact h1.shut, by rw [ht2]; exact h1.over, by rw [ht2]; exact h1.top, by rw [ht2]; exact fun e => h1.una e, by rw [ht2], ?_, .inl ⟨by rw [ht2]; exact n1, by rw [ht2]; exact n2, by rw [ht2]; exact n3, by omega⟩, ?_, by omega⟩
    · rw [ht2]
      show t1.rcv + p.data.length = _
      rw [h1.rcv]
    · rw [hrl, List.take_add, ← h1.rdw, show rd.length = v - 1 by omega, ← hdw]
  have hack : ∀ (q : Pk), ({ t2 with inn := p.data, pack := [q] } : TS).push.talk5 = { t2 with inn := p.data, pack := [q] } := fun q => by
    rw [push_idle (s := { t2 with inn := p.data, pack := [q] }) hB.out hB.shut]
    unfold TS.talk5
    rw [if_neg]
    rintro ⟨_, e⟩
    have e : t2.over = true := e
    rw [hB.over] at e
    cases e
  refine ⟨t2, hB, by rw [ht2]; exact h2, by rw [ht2]; exact h4, by rw [ht2]; exact hgot, ?_⟩
  refine ⟨({ t2 with inn := p.data } : TS).mkp 2 (m32 (irs + 1)) [], ?_, rfl, rfl, rfl, ?_, ?_⟩
  · rw [← hack]
    have : ({ t1 with wnd := p.wn, tries := 0, inn := p.data, rcv := t1.rcv + p.data.length } : TS).ack = { t2 with inn := p.data, pack := [({ t2 with inn := p.data } : TS).mkp 2 (m32 (irs + 1)) []] } := by
      unfold TS.ack TS.emit
      rw [ht2]
      show ({ t1 with wnd := p.wn, tries := 0, inn := p.data, rcv := t1.rcv + p.data.length, pack := t1.pack ++ [_] } : TS) = _
      rw [h3]
      show ({ t1 with wnd := p.wn, tries := 0, inn := p.data, rcv := t1.rcv + p.data.length, pack := t.pack ++ [_] } : TS) = _
      rw [hpk]
      show ({ t1 with wnd := p.wn, tries := 0, inn := p.data, rcv := t1.rcv + p.data.length, pack := [({ t1 with wnd := p.wn, tries := 0, inn := p.data, rcv := t1.rcv + p.data.length } : TS).mkp 2 (m32 (t1.iss + t1.top)) []] } : TS) = _
      rw [h1.nm, h1.top]
      rfl
    exact congrArg (fun z : TS => z.push.talk5) this
  · show m32 (t2.irs + t2.rcv) = _
    rw [hB.ir, hB.rcv]
  · show ((1024 - p.data.length : Nat) : Int) = _
    omega
/-- The end comes. -/
theorem lb_fin (h : LB iss irs Wr t v rd) (hok : okP p = true) (hfl : p.fl = 6) (hd : p.data = []) (hv : v = 1 + Wr.length) (hs : p.seq = m32 (iss + v)) (ha : p.ack = m32 (irs + 1)) (hpk : t.pack = []) :
    LB iss irs Wr (t.take p).empty (v + 1) rd ∧ (t.take p).state = 3 ∧ (t.take p).idle = 0 ∧ ∃ q, (t.take p).pack = [q] ∧ q.fl = 2 ∧ q.data = [] ∧ q.seq = m32 (irs + 1) ∧ q.ack = m32 (iss + (v + 1)) ∧ q.wn = 1024 := by
  rw [lb_take h hok (.inr hfl) ha]
  obtain ⟨h1, h2, h3, h4⟩ := h.idle0.talk1
  obtain ⟨t1, ht1⟩ : ∃ t1, ({ t with idle := 0 } : TS).talk1 = t1 := ⟨_, rfl⟩
  have hcr := lb_credit h1 h2 ha
  rw [talk_fit (by
    apply fits_at
    show p.seq = m32 (_ + _)
    rw [h1.ir, h1.rcv]
    exact hs) (by rw [hcr]), hcr]
  rw [ht1] at h1 h2 h3 h4 ⊢
  have hf4 : hasF p 4 = true := by rw [hasFl hfl]; decide +kernel
  have hrl := h1.rdl
  have hnf : t1.fin = false ∧ t1.told = false ∧ t1.early = List.replicate 1024 none ∧ v = 1 + rd.length := by
    rcases h1.rq with e | ⟨_, e1, e2⟩
    · exact e
    · omega
  obtain ⟨n1, n2, n3, n4⟩ := hnf
  dsimp only
  rw [talk2_fin (s := { t1 with wnd := p.wn, tries := 0 }) n1 n2 n3 hf4 hd (by
    show p.seq = m32 (t1.irs + t1.rcv)
    rw [h1.ir, h1.rcv]
    exact hs)]
  have htk : 0 < takesN p.fl p.data.length := by rw [hfl, hd]; decide +kernel
  unfold TS.talk3
  rw [if_pos htk]
  have hB : LB iss irs Wr ({ t1 with wnd := p.wn, tries := 0, told := true, fend := t1.rcv, fin := true, rcv := t1.rcv + 1 } : TS).ack (v + 1) rd := by
    refine ⟨.inl h2, h1.nm, h1.ir, h1.out, h1.shut, h1.over, h1.top, fun e => h1.una e, h1.inn, ?_, .inr ⟨rfl, by omega, by omega⟩, h1.rdw, h1.rdl⟩
    show t1.rcv + 1 = _
    rw [h1.rcv]
  show LB iss irs Wr (({ t1 with wnd := p.wn, tries := 0, told := true, fend := t1.rcv, fin := true, rcv := t1.rcv + 1 } : TS).ack.push.talk5).empty (v + 1) rd ∧ _
  rw [show (({ ({ t1 with wnd := p.wn, tries := 0 } : TS) with told := true, fend := ({ t1 with wnd := p.wn, tries := 0 } : TS).rcv, fin := true, rcv := ({ t1 with wnd := p.wn, tries := 0 } : TS).rcv + 1 } : TS)).ack = ({ t1 with wnd := p.wn, tries := 0, told := true, fend := t1.rcv, fin := true, rcv := t1.rcv + 1 } : TS).ack from rfl]
  rw [push_idle hB.out hB.shut, hB.talk5]
  refine ⟨hB.of rfl rfl rfl rfl rfl rfl rfl rfl rfl rfl rfl rfl rfl rfl, h2, h4, ({ t1 with wnd := p.wn, tries := 0, told := true, fend := t1.rcv, fin := true, rcv := t1.rcv + 1 } : TS).mkp 2 (m32 (t1.iss + t1.top)) [], ?_, rfl, rfl, ?_, ?_, ?_⟩
  · show t1.pack ++ [_] = _
    rw [h3]
    show t.pack ++ _ = _
    rw [hpk]
    rfl
  · show m32 (t1.iss + t1.top) = _
    rw [h1.nm, h1.top]
  · show m32 (t1.irs + (t1.rcv + 1)) = _
    rw [h1.ir, h1.rcv]
  · show ((1024 - t1.inn.length : Nat) : Int) = 1024
    rw [h1.inn]
    rfl
theorem read_none (h0 : s.state ≠ 0) (hi : s.inn = []) (n : Int) : s.read n = ([], s) := by
  have hk : s.readN n = 0 := by
    have := readN_le s n
    rw [hi] at this
    simpa using this
  unfold TS.read
  rw [if_neg h0, hk, hi]
  dsimp only
  have e : ({ s with inn := ([] : List UInt8).drop 0, got := s.got + 0 } : TS) = s := by
    cases s
    dsimp only at hi
    subst hi
    rfl
  rw [e, if_neg]
  · rfl
  · rintro ⟨_, h2, _⟩
    unfold TS.window at h2
    rw [hi] at h2
    have h2 : (1024 : Nat) - 0 < 128 := h2
    omega
theorem read_seg (h0 : s.state ≠ 0) (hl : s.inn.length ≤ 128) : s.read 5000 = (s.inn, { s with inn := [], got := s.got + s.inn.length }) := by
  have hk : s.readN 5000 = s.inn.length := by unfold TS.readN; omega
  unfold TS.read
  rw [if_neg h0, hk]
  dsimp only
  rw [List.take_length, List.drop_length, if_neg]
  rintro ⟨_, h2, _⟩
  unfold TS.window at h2
  omega
end TS
end Go.Proofs.Ytjhnnnklfhbebaa
namespace Go.Proofs.Ytjhnnnklfhbebaa
open Go.RowKit
set_option linter.unusedVariables false
set_option linter.unusedSimpArgs false
/-- Bytes go one way; u, v, x: what is acknowledged, what has come, what was sent; f: how many packets may come yet; d: what has come and is not read. -/
structure LP (iss irs τ u0 : Nat) (P : PS) (u v x f : Nat) (d : List UInt8) : Prop where
  pg : ∃ m, PGood P m
  a : LA iss irs (P.wr 0) (P.c 0) u x
  b : LB iss irs (P.wr 0) ({ P.c 1 with inn := [] } : TS) v (P.rd 1 ++ d)
  bi : (P.c 1).inn = d
  dl : d.length ≤ 128
  ln : ∃ w1 w0, Ln iss irs (P.wr 0) v (P.bag 1) x w1 ∧ B0 iss irs (P.wr 0) v u (P.bag 0) w0 ∧ w1 + w0 + (if x = 1 + (P.wr 0).length + (P.c 0).shut.toNat then 0 else 22) ≤ f
  cov : u = v ∨ ∃ q, q ∈ P.bag 0 ∧ q.seq = m32 (irs + 1) ∧ q.ack = m32 (iss + v)
  full : x = 1 + (P.wr 0).length + (P.c 0).shut.toNat ∨ (∃ q, q ∈ P.bag 0 ∧ q.seq = m32 (irs + 1)) ∨ v < x
  two : (P.c 1).state = 2 → P.bag 1 ≠ []
  ia : (P.c 0).idle ≤ τ ∧ (u0 < u → (P.c 0).idle = 0)
  ib : (P.c 1).idle ≤ τ ∧ (u0 < v → (P.c 1).idle = 0)
theorem inn_eq {s : TS} {d : List UInt8} (h : s.inn = d) : ({ s with inn := d } : TS) = s := by
  cases s
  dsimp only at h
  subst h
  rfl
section
variable {iss irs τ u0 u v x f : Nat} {P Q : PS} {d : List UInt8}
/-- Nothing else is there. -/
structure Same (P Q : PS) : Prop where
  c : ∀ j, j < 2 → Q.c j = P.c j
  bag : ∀ j, j < 2 → Q.bag j = P.bag j
  wr : ∀ j, j < 2 → Q.wr j = P.wr j
  rd : ∀ j, j < 2 → Q.rd j = P.rd j
theorem LP.same (h : LP iss irs τ u0 P u v x f d) (e : Same P Q) (hg : ∃ m, PGood Q m) : LP iss irs τ u0 Q u v x f d := by
  have c0 := e.c 0 (by omega)
  have c1 := e.c 1 (by omega)
  have b0 := e.bag 0 (by omega)
  have b1 := e.bag 1 (by omega)
  have w := e.wr 0 (by omega)
  have r := e.rd 1 (by omega)
  refine ⟨hg, ?_, ?_, ?_, h.dl, ?_, ?_, ?_, ?_, ?_, ?_⟩
  · rw [c0, w]; exact h.a
  · rw [c1, w, r]; exact h.b
  · rw [c1]; exact h.bi
  · rw [c0, b0, b1, w]; exact h.ln
  · rw [b0]; exact h.cov
  · rw [c0, b0, w]; exact h.full
  · rw [c1, b1]; exact h.two
  · rw [c0]; exact h.ia
  · rw [c1]; exact h.ib
theorem LP.len (h : LP iss irs τ u0 P u v x f d) : (P.bag 0).length + (P.bag 1).length ≤ f ∧ v ≤ x ∧ u ≤ v := by
  obtain ⟨w1, w0, l1, l0, hf⟩ := h.ln
  have a1 := ln_len _ l1
  have a0 := b0_len _ l0
  omega
/-- Who writes reads nothing. -/
theorem LP.rd0 (h : LP iss irs τ u0 P u v x f d) (hf : f ≤ 100) : LP iss irs τ u0 (P.does (rdA 0)) u v x f d := by
  obtain ⟨m, pg⟩ := h.pg
  have hl := h.len
  have hs : (P.c 0).state ≠ 0 := by rw [h.a.st]; decide
  have e := TS.read_none hs h.a.inn 5000
  have p0 := pg.fine.empty 0 (by omega)
  have p1 := pg.fine.empty 1 (by omega)
  have hL := does_rd (P := P) (i := 0) (by omega) p1 (by rw [e]; intro _; exact p0) (by
    rw [e]
    show (P.bag 1).length + (P.c 0).pack.length ≤ 300
    rw [p0]
    show (P.bag 1).length + 0 ≤ 300
    omega)
  rw [e] at hL
  refine h.same ⟨fun j hj => ?_, fun j hj => ?_, fun j hj => ?_, fun j hj => ?_⟩ ⟨_, pg.does _⟩
  · rcases two_cases hj with rfl | rfl
    · rw [hL.c]; exact TS.empty_eq p0
    · exact hL.co
  · rcases two_cases hj with rfl | rfl
    · exact hL.bag
    · have := hL.bago
      rw [show (P.c 0).pack = [] from p0, List.append_nil] at this
      exact this
  · rcases two_cases hj with rfl | rfl
    · exact hL.wr
    · exact hL.wro
  · rcases two_cases hj with rfl | rfl
    · have := hL.rd
      rw [List.append_nil] at this
      exact this
    · exact hL.rdo
/-- Who reads reads all. -/
theorem LP.rd1 (h : LP iss irs τ u0 P u v x f d) (hf : f ≤ 100) : LP iss irs τ u0 (P.does (rdA 1)) u v x f [] := by
  obtain ⟨m, pg⟩ := h.pg
  have hl := h.len
  have hs : (P.c 1).state ≠ 0 := by
    rcases h.b.st with e | e
    · have e : (P.c 1).state = 3 := e
      omega
    · have e : (P.c 1).state = 2 := e
      omega
  have e := TS.read_seg (s := P.c 1) hs (by rw [h.bi]; exact h.dl)
  rw [h.bi] at e
  have p0 := pg.fine.empty 0 (by omega)
  have p1 := pg.fine.empty 1 (by omega)
  have hL := does_rd (P := P) (i := 1) (by omega) p0 (by rw [e]; intro _; exact p1) (by
    rw [e]
    show (P.bag 0).length + (P.c 1).pack.length ≤ 300
    rw [p1]
    show (P.bag 0).length + 0 ≤ 300
    omega)
  rw [e] at hL
  have hc1 : (P.does (rdA 1)).c 1 = ({ P.c 1 with inn := [], got := (P.c 1).got + d.length } : TS) := by
    rw [hL.c]
    exact TS.empty_eq p1
  have hc0 : (P.does (rdA 1)).c 0 = P.c 0 := hL.co
  have hb1 : (P.does (rdA 1)).bag 1 = P.bag 1 := hL.bag
  have hb0 : (P.does (rdA 1)).bag 0 = P.bag 0 := by
    have := hL.bago
    rw [show ({ P.c 1 with inn := [], got := (P.c 1).got + d.length } : TS).pack = [] from p1, List.append_nil] at this
    exact this
  have hw : (P.does (rdA 1)).wr 0 = P.wr 0 := hL.wro
  have hr : (P.does (rdA 1)).rd 1 = P.rd 1 ++ d := hL.rd
  refine ⟨⟨_, pg.does _⟩, ?_, ?_, ?_, Nat.zero_le _, ?_, ?_, ?_, ?_, ?_, ?_⟩
  · rw [hc0, hw]; exact h.a
  · rw [hc1, hw, hr, List.append_nil]
    exact h.b.of rfl rfl rfl rfl rfl rfl rfl rfl rfl rfl rfl rfl rfl rfl
  · rw [hc1]
  · rw [hc0, hb0, hb1, hw]; exact h.ln
  · rw [hb0]; exact h.cov
  · rw [hc0, hb0, hw]; exact h.full
  · rw [hc1, hb1]; exact h.two
  · rw [hc0]; exact h.ia
  · rw [hc1]; exact h.ib
theorem m32_ne (i : Nat) : m32 (i + 1) ≠ m32 i := by unfold m32; omega
/-- A packet comes to who writes. -/
theorem LP.gv0 (h : LP iss irs τ u0 P u v x (f + 1) []) (hf : f ≤ 100) (hb : 0 < (P.bag 0).length) : ∃ u' x', u ≤ u' ∧ (P.does (gvA 0)).wr 0 = P.wr 0 ∧ ((P.does (gvA 0)).c 0).shut = (P.c 0).shut ∧ LP iss irs τ u0 (P.does (gvA 0)) u' v x' f [] := by
  obtain ⟨m, pg⟩ := h.pg
  have hl := h.len
  obtain ⟨p, r, hpr⟩ : ∃ p r, P.bag 0 = p :: r := by
    cases e : P.bag 0 with
    | nil => rw [e] at hb; exact absurd hb (Nat.lt_irrefl _)
    | cons p r => exact ⟨p, r, rfl⟩
  have p0 := pg.fine.empty 0 (by omega)
  have p1 := pg.fine.empty 1 (by omega)
  have hok := (pg.fine.bok 0 (by omega) p (by rw [hpr]; exact .head _)).1
  have hs0 : (P.c 0).state ≠ 0 := by rw [h.a.st]; decide
  obtain ⟨w1, w0, l1, l0, hw⟩ := h.ln
  rw [hpr] at l0
  obtain ⟨a1, a2, a3, k, w0', b1, b2, b3, b4, b5⟩ := l0
  have hkv := (b0_len _ b5).2
  have hvx := hl.2.1
  have hlen1 := (ln_len _ l1).1
  obtain ⟨E, hE⟩ : ∃ E, 1 + (P.wr 0).length + (P.c 0).shut.toNat = E := ⟨_, rfl⟩
  have hxE := h.a.xE
  have hlim := h.a.lim
  have hsh : (P.c 0).shut.toNat ≤ 1 := by cases (P.c 0).shut <;> decide
  rcases b4 with ⟨b4, b6⟩ | ⟨b4, b6⟩
  · -- it tells what has come
    obtain ⟨q1, q2, q3, q4, q5, q6, q7⟩ := TS.la_fit h.a hok a1 a2 b4 b1 (by omega) b2 b3 a3 p0
    have h10 : ((P.c 0).take p).pack.length ≤ 10 := by omega
    have hz : x = E → ((P.c 0).take p).pack = [] := fun e => q7 (by rw [hE]; exact e)
    have hL := does_gv (P := P) (i := 0) (by omega) hpr p1 hs0 (by rw [q4]; decide) (by
      show (P.bag 1).length + _ ≤ 300
      omega)
    have hc0 : (P.does (gvA 0)).c 0 = ((P.c 0).take p).empty := hL.c
    have hc1 : (P.does (gvA 0)).c 1 = P.c 1 := hL.co
    have hb0 : (P.does (gvA 0)).bag 0 = r := hL.bag
    have hb1 : (P.does (gvA 0)).bag 1 = P.bag 1 ++ ((P.c 0).take p).pack := hL.bago
    have hwr : (P.does (gvA 0)).wr 0 = P.wr 0 := hL.wr
    have hrd : (P.does (gvA 0)).rd 1 = P.rd 1 := hL.rdo
    have hst : ((P.does (gvA 0)).c 0).shut = (P.c 0).shut := by rw [hc0]; exact q2
    refine ⟨k, E, b1, hwr, hst, ⟨_, pg.does _⟩, ?_, ?_, ?_, Nat.zero_le _, ?_, ?_, ?_, ?_, ?_, ?_⟩
    · rw [hc0, hwr, ← hE]; exact q1
    · rw [hc1, hwr, hrd]; exact h.b
    · rw [hc1]; exact h.bi
    · rw [hb0, hb1, hwr, hst, hE, if_pos rfl]
      refine ⟨w1 + 2 * ((P.c 0).take p).pack.length, w0', ln_app _ l1 (by rw [← hE]; exact q5), b5, ?_⟩
      by_cases hxe : x = E
      · rw [hE, if_pos hxe] at hw
        rw [hz hxe]
        show w1 + 2 * 0 + w0' + 0 ≤ f
        omega
      · rw [hE, if_neg hxe] at hw
        omega
    · rw [hb0]
      rcases h.cov with e | ⟨q, hq, e1, e2⟩
      · exact .inl (by omega)
      · rw [hpr] at hq
        rcases List.mem_cons.1 hq with rfl | hq
        · left
          rw [b2] at e2
          have hbig := h.a.big
          unfold m32 at e2
          omega
        · exact .inr ⟨q, hq, e1, e2⟩
    · rw [hwr, hst, hE]
      exact .inl rfl
    · rw [hc1, hb1]
      intro e
      have := h.two e
      cases ep : P.bag 1 with
      | nil => exact absurd ep this
      | cons z zs => intro e; cases e
    · rw [hc0]
      have : ((P.c 0).take p).empty.idle = 0 := q3
      rw [this]
      exact ⟨Nat.zero_le _, fun _ => rfl⟩
    · rw [hc1]; exact h.ib
  · -- it asks
    obtain ⟨q1, q2, q3, q4, q, q5, g1, g2, g3, g4⟩ := TS.la_ka h.a hok a1 a2 b4 p0
    have hL := does_gv (P := P) (i := 0) (by omega) hpr p1 hs0 (by rw [q4]; decide) (by
      rw [q5]
      show (P.bag 1).length + 1 ≤ 300
      omega)
    have hc0 : (P.does (gvA 0)).c 0 = ((P.c 0).take p).empty := hL.c
    have hc1 : (P.does (gvA 0)).c 1 = P.c 1 := hL.co
    have hb0 : (P.does (gvA 0)).bag 0 = r := hL.bag
    have hb1 : (P.does (gvA 0)).bag 1 = P.bag 1 ++ [q] := by
      have := hL.bago
      rw [q5] at this
      exact this
    have hwr : (P.does (gvA 0)).wr 0 = P.wr 0 := hL.wr
    have hrd : (P.does (gvA 0)).rd 1 = P.rd 1 := hL.rdo
    have hst : ((P.does (gvA 0)).c 0).shut = (P.c 0).shut := by rw [hc0]; exact q2
    have hx1 : 1 ≤ x := Nat.le_trans h.a.u1 h.a.ux
    refine ⟨u, x, Nat.le_refl _, hwr, hst, ⟨_, pg.does _⟩, ?_, ?_, ?_, Nat.zero_le _, ?_, ?_, ?_, ?_, ?_, ?_⟩
    · rw [hc0, hwr]; exact q1
    · rw [hc1, hwr, hrd]; exact h.b
    · rw [hc1]; exact h.bi
    · rw [hb0, hb1, hwr, hst]
      refine ⟨w1 + 1, w0', ln_app _ l1 ⟨g4, hx1, .inl ⟨g1, g2, g3, 0, rfl, rfl, rfl⟩⟩, b0_lo _ b1 b5, ?_⟩
      omega
    · rw [hb0]
      rcases h.cov with e | ⟨q', hq, e1, e2⟩
      · exact .inl e
      · rw [hpr] at hq
        rcases List.mem_cons.1 hq with rfl | hq
        · rw [b4] at e1
          exact absurd e1.symm (m32_ne irs)
        · exact .inr ⟨q', hq, e1, e2⟩
    · rw [hwr, hst, hb0]
      rcases h.full with e | ⟨q', hq, e1⟩ | e
      · exact .inl e
      · rw [hpr] at hq
        rcases List.mem_cons.1 hq with rfl | hq
        · rw [b4] at e1
          exact absurd e1.symm (m32_ne irs)
        · exact .inr (.inl ⟨q', hq, e1⟩)
      · exact .inr (.inr e)
    · rw [hc1, hb1]
      intro e
      have := h.two e
      cases ep : P.bag 1 with
      | nil => exact absurd ep this
      | cons z zs => intro e; cases e
    · rw [hc0]
      have : ((P.c 0).take p).empty.idle = 0 := q3
      rw [this]
      exact ⟨Nat.zero_le _, fun _ => rfl⟩
    · rw [hc1]; exact h.ib
end
end Go.Proofs.Ytjhnnnklfhbebaa
namespace Go.Proofs.Ytjhnnnklfhbebaa
open Go.RowKit
set_option linter.unusedVariables false
set_option linter.unusedSimpArgs false
namespace PS
/-- A reading changes nothing of what was written. -/
theorem rd_does0 (P : PS) {i : Nat} (hi : i < 2) : P.does0 (rdA i) = (P.setC i ((P.c i).read 5000).2).setR i (P.rd i ++ ((P.c i).read 5000).1) := by
  have e1 : opN (rdA i) = 7 := rfl
  unfold PS.does0
  rw [sideN_rd hi, e1]
  rfl
theorem rd_wr {P : PS} {i j : Nat} (hi : i < 2) : (P.does (rdA i)).wr j = P.wr j := by
  unfold PS.does
  rw [rd_does0 P hi]
  rfl
theorem out_shut (P : PS) (j : Nat) : (P.out.c j).shut = (P.c j).shut := by
  have h1 : ∀ (P : PS) (i j : Nat), ((P.outI i).c j).shut = (P.c j).shut := fun P i j => by
    show (fset P.c i (P.c i).outp.2 j).shut = _
    unfold fset
    split
    · rename_i e
      rw [e]
      unfold TS.outp
      split <;> rfl
    · rfl
  unfold PS.out
  rw [h1, h1]
theorem rd_shut {P : PS} {i j : Nat} (hi : i < 2) : ((P.does (rdA i)).c j).shut = (P.c j).shut := by
  unfold PS.does
  rw [out_shut, rd_does0 P hi]
  show (fset P.c i ((P.c i).read 5000).2 j).shut = _
  unfold fset
  split
  · rename_i e
    rw [e]
    exact TS.sh_read _ _
  · rfl
end PS
section
variable {iss irs τ u0 u v x f : Nat} {P Q : PS} {d : List UInt8}
theorem mem_snoc {p q : Pk} {l : List Pk} (h : p ∈ l) : p ∈ l ++ [q] := List.mem_append.2 (.inl h)
/-- Who reads answers. -/
theorem LP.reply (h : LP iss irs τ u0 P u v x (f + 1) []) (hf : f ≤ 100) (he : P.bag 0 = []) {p : Pk} {r : List Pk} (hpr : P.bag 1 = p :: r) {v' w1' : Nat} (hv : v ≤ v') {t2 : TS} {d' : List UInt8} {q : Pk} (hL : Left P (P.does (gvA 1)) 1 ((P.c 1).take p) r (P.wr 1) (P.rd 1))
    (hB : LB iss irs (P.wr 0) ({ (P.does (gvA 1)).c 1 with inn := [] } : TS) v' (P.rd 1 ++ d')) (hi : ((P.does (gvA 1)).c 1).inn = d') (hd : d'.length ≤ 128) (h3 : ((P.does (gvA 1)).c 1).state = 3) (hid : ((P.does (gvA 1)).c 1).idle = 0) (hq : ((P.c 1).take p).pack = [q])
    (q1 : q.fl = 2) (q2 : q.data = []) (q3 : q.seq = m32 (irs + 1)) (q4 : q.ack = m32 (iss + v')) (q5 : q.wn = 1024 - (d'.length : Int)) (q6 : (1 + (P.wr 0).length : Int) ≤ (v' : Int) + q.wn) (hln : Ln iss irs (P.wr 0) v' r x w1') (hw : ∀ w1, Ln iss irs (P.wr 0) v (P.bag 1) x w1 → w1 = w1' + 2) :
    LP iss irs τ u0 (P.does (gvA 1)) u v' x f d' := by
  obtain ⟨m, pg⟩ := h.pg
  have hl := h.len
  obtain ⟨w1, w0, l1, l0, hwt⟩ := h.ln
  have hw1 := hw w1 l1
  rw [he] at l0
  obtain ⟨_, hw0⟩ := l0
  have hc0 : (P.does (gvA 1)).c 0 = P.c 0 := hL.co
  have hb1 : (P.does (gvA 1)).bag 1 = r := hL.bag
  have hb0 : (P.does (gvA 1)).bag 0 = [q] := by
    have := hL.bago
    rw [hq, show P.bag (1 - 1) = [] from he] at this
    exact this
  have hwr : (P.does (gvA 1)).wr 0 = P.wr 0 := hL.wro
  have hrd : (P.does (gvA 1)).rd 1 = P.rd 1 := hL.rd
  refine ⟨⟨_, pg.does _⟩, ?_, ?_, hi, hd, ?_, ?_, ?_, ?_, ?_, ?_⟩
  · rw [hc0, hwr]; exact h.a
  · rw [hwr, hrd]; exact hB
  · rw [hb0, hb1, hwr, hc0]
    refine ⟨w1', 1, hln, ⟨q1, q2, by omega, v', 0, by omega, q4, q6, .inl ⟨q3, rfl⟩, Nat.le_refl _, rfl⟩, by omega⟩
  · rw [hb0]
    exact .inr ⟨q, .head _, q3, q4⟩
  · rw [hb0]
    exact .inr (.inl ⟨q, .head _, q3⟩)
  · rw [h3]
    intro e
    cases e
  · rw [hc0]; exact h.ia
  · rw [hid]
    exact ⟨Nat.zero_le _, fun _ => rfl⟩
theorem ln_kind {Wr : List UInt8} {p : Pk} {r : List Pk} {w w' a : Nat} : Ln iss irs Wr v (p :: r) x w → True := fun _ => trivial
theorem ln_w {Wr : List UInt8} : ∀ (ps : List Pk) {v x x' w w' : Nat}, Wr.length ≤ 1000000 → x ≤ 2000000 → x' ≤ 2000000 → Ln iss irs Wr v ps x w → Ln iss irs Wr v ps x' w' → w = w'
  | [], v, x, x', w, w', _, _, _, h, k => by
    have := h.2
    have := k.2
    omega
  | p :: r, v, x, x', w, w', hW, hx, hx', h, k => by
    obtain ⟨_, v1, h⟩ := h
    obtain ⟨_, _, k⟩ := k
    have hvx : v ≤ 2000000 := by
      have h0 := h
      rcases h0 with ⟨_, _, _, a, _, b⟩ | ⟨_, _, _, a, _, b⟩ | ⟨_, _, _, _, _, _, a, _, b⟩ | ⟨_, _, _, _, a, _, b⟩ <;> have := (ln_len r b).2 <;> omega
    have hne : m32 (iss + v) ≠ m32 (iss + (v - 1)) := by unfold m32; omega
    rcases h with ⟨a1, a2, a3, a, e, b⟩ | ⟨a1, a2, a3, a, e, b⟩ | ⟨a1, a2, _, _, _, a3, a, e, b⟩ | ⟨a1, a2, _, a3, a, e, b⟩ <;> rcases k with ⟨c1, c2, c3, c, g, i⟩ | ⟨c1, c2, c3, c, g, i⟩ | ⟨c1, c2, _, _, _, c3, c, g, i⟩ | ⟨c1, c2, _, c3, c, g, i⟩
    · have := ln_w r hW hx hx' b i
      omega
    · exact absurd (a3.symm.trans c3) hne
    · exact absurd a2 c2
    · omega
    · exact absurd (c3.symm.trans a3) hne
    · have := ln_w r hW hx hx' b i
      omega
    · exact absurd a2 c2
    · omega
    · exact absurd c2 a2
    · exact absurd c2 a2
    · have := ln_w r hW hx hx' b i
      omega
    · omega
    · omega
    · omega
    · omega
    · have := ln_w r hW hx hx' b i
      omega
/-- A packet comes to who reads. -/
theorem LP.gv1 (h : LP iss irs τ u0 P u v x (f + 1) []) (hf : f ≤ 100) (he : P.bag 0 = []) (hb : 0 < (P.bag 1).length) : ∃ v' d', v ≤ v' ∧ (P.does (gvA 1)).wr 0 = P.wr 0 ∧ ((P.does (gvA 1)).c 0).shut = (P.c 0).shut ∧ LP iss irs τ u0 (P.does (gvA 1)) u v' x f d' := by
  obtain ⟨m, pg⟩ := h.pg
  have hl := h.len
  obtain ⟨p, r, hpr⟩ : ∃ p r, P.bag 1 = p :: r := by
    cases e : P.bag 1 with
    | nil => rw [e] at hb; exact absurd hb (Nat.lt_irrefl _)
    | cons p r => exact ⟨p, r, rfl⟩
  have p0 := pg.fine.empty 0 (by omega)
  have p1 := pg.fine.empty 1 (by omega)
  have hok := (pg.fine.bok 1 (by omega) p (by rw [hpr]; exact .head _)).1
  have hB0 : LB iss irs (P.wr 0) (P.c 1) v (P.rd 1) := by
    have := h.b
    rw [List.append_nil, inn_eq h.bi] at this
    exact this
  have hs1 : (P.c 1).state ≠ 0 := by
    have := hB0.st
    omega
  obtain ⟨w1, w0, l1, l0, hw⟩ := h.ln
  have hl1 := l1
  rw [hpr] at hl1
  obtain ⟨ha, hv1, hk⟩ := hl1
  have hxE := h.a.xE
  have hlim := h.a.lim
  have hbig := h.a.big
  have hsh : (P.c 0).shut.toNat ≤ 1 := by cases (P.c 0).shut <;> decide
  have hx2 : x ≤ 2000000 := by omega
  have huniq : ∀ w', Ln iss irs (P.wr 0) v (P.bag 1) x w' → w' = w1 := fun w' hw' => ln_w _ hbig hx2 hx2 hw' l1
  rcases hk with ⟨a1, a2, a3, w1', e1, b⟩ | ⟨a1, a2, a3, w1', e1, b⟩ | ⟨a1, a2, a4, a5, a6, a3, w1', e1, b⟩ | ⟨a1, a2, a4, a3, w1', e1, b⟩
  · obtain ⟨q1, q2, q3, q4⟩ := TS.lb_fit hB0 hok a1 a2 a3 ha p1
    have hL := does_gv (P := P) (i := 1) (by omega) hpr p0 hs1 (by rw [q2]; decide) (by
      rw [q4]
      show (P.bag 0).length + 0 ≤ 300
      rw [he]
      decide)
    have hc0 : (P.does (gvA 1)).c 0 = P.c 0 := hL.co
    have hc1 : (P.does (gvA 1)).c 1 = (P.c 1).take p := by rw [hL.c]; exact TS.empty_eq q4
    have hb1 : (P.does (gvA 1)).bag 1 = r := hL.bag
    have hb0 : (P.does (gvA 1)).bag 0 = P.bag 0 := by
      have := hL.bago
      rw [q4, List.append_nil] at this
      exact this
    have hwr : (P.does (gvA 1)).wr 0 = P.wr 0 := hL.wro
    have hrd : (P.does (gvA 1)).rd 1 = P.rd 1 := hL.rd
    refine ⟨v, [], Nat.le_refl _, hwr, by rw [hc0], ⟨_, pg.does _⟩, ?_, ?_, ?_, Nat.zero_le _, ?_, ?_, ?_, ?_, ?_, ?_⟩
    · rw [hc0, hwr]; exact h.a
    · rw [hc1, hwr, hrd, List.append_nil, inn_eq q1.inn]; exact q1
    · rw [hc1]; exact q1.inn
    · rw [hb0, hb1, hwr, hc0]
      exact ⟨w1', w0, b, l0, by omega⟩
    · rw [hb0]; exact h.cov
    · rw [hc0, hb0, hwr]; exact h.full
    · rw [hc1, q2]
      intro e
      cases e
    · rw [hc0]; exact h.ia
    · rw [hc1, q3]
      exact ⟨Nat.zero_le _, fun _ => rfl⟩
  · obtain ⟨q1, q2, q3, q, q4, g1, g2, g3, g4, g5⟩ := TS.lb_ka hB0 hok a1 a2 hv1 a3 ha p1
    have hL := does_gv (P := P) (i := 1) (by omega) hpr p0 hs1 (by rw [q2]; decide) (by
      rw [q4]
      show (P.bag 0).length + 1 ≤ 300
      rw [he]
      decide)
    have hc0 : (P.does (gvA 1)).c 0 = P.c 0 := hL.co
    refine ⟨v, [], Nat.le_refl _, hL.wro, by rw [hc0], h.reply hf he hpr (t2 := P.c 1) (Nat.le_refl _) hL ?_ ?_ (Nat.zero_le _) ?_ ?_ q4 g1 g2 g3 g4 (by rw [g5]; rfl) ?_ b fun w' hw' => ?_⟩
    · rw [hL.c, List.append_nil, inn_eq q1.inn]; exact q1
    · rw [hL.c]; exact q1.inn
    · rw [hL.c]; exact q2
    · rw [hL.c]; exact q3
    · rw [g5]
      omega
    · rw [huniq w' hw', e1]
  · obtain ⟨t2, q1, q2, q3, q4, q, q5, g1, g2, g3, g4, g5⟩ := TS.lb_seg hB0 hok a1 a2 a6 hv1 a4 a5 a3 ha p1
    have hL := does_gv (P := P) (i := 1) (by omega) hpr p0 hs1 (by rw [q5]; show t2.state ≠ 0; rw [q2]; decide) (by
      rw [q5]
      show (P.bag 0).length + 1 ≤ 300
      rw [he]
      decide)
    have hc0 : (P.does (gvA 1)).c 0 = P.c 0 := hL.co
    have hc1 : (P.does (gvA 1)).c 1 = ({ t2 with inn := p.data, pack := [] } : TS) := by rw [hL.c, q5]; rfl
    refine ⟨v + p.data.length, p.data, by omega, hL.wro, by rw [hc0], h.reply hf he hpr (t2 := t2) (by omega) hL ?_ ?_ a6 ?_ ?_ (by rw [q5]) g1 g2 g3 g4 g5 ?_ b fun w' hw' => ?_⟩
    · rw [hc1]
      exact q1.of rfl rfl rfl rfl (show ([] : List UInt8) = t2.inn from q1.inn.symm) rfl rfl rfl rfl rfl rfl rfl rfl rfl
    · rw [hc1]
    · rw [hc1]; exact q2
    · rw [hc1]; exact q3
    · rw [g5]
      omega
    · rw [huniq w' hw', e1]
  · obtain ⟨q1, q2, q3, q, q4, g1, g2, g3, g4, g5⟩ := TS.lb_fin hB0 hok a1 a2 a4 a3 ha p1
    have hL := does_gv (P := P) (i := 1) (by omega) hpr p0 hs1 (by rw [q2]; decide) (by
      rw [q4]
      show (P.bag 0).length + 1 ≤ 300
      rw [he]
      decide)
    have hc0 : (P.does (gvA 1)).c 0 = P.c 0 := hL.co
    refine ⟨v + 1, [], by omega, hL.wro, by rw [hc0], h.reply hf he hpr (t2 := P.c 1) (by omega) hL ?_ ?_ (Nat.zero_le _) ?_ ?_ q4 g1 g2 g3 g4 (by rw [g5]; rfl) ?_ b fun w' hw' => ?_⟩
    · rw [hL.c, List.append_nil, inn_eq q1.inn]; exact q1
    · rw [hL.c]; exact q1.inn
    · rw [hL.c]; exact q2
    · rw [hL.c]; exact q3
    · rw [g5]
      omega
    · rw [huniq w' hw', e1]
/-- One packet, and both read. -/
theorem LP.iter (h : LP iss irs τ u0 P u v x (f + 1) []) (hf : f ≤ 100) (hb : P.busy) : ∃ u' v' x', u ≤ u' ∧ v ≤ v' ∧ P.iter.wr 0 = P.wr 0 ∧ (P.iter.c 0).shut = (P.c 0).shut ∧ LP iss irs τ u0 P.iter u' v' x' f [] := by
  have key : ∀ {Q : PS} {u' v' x' : Nat} {d' : List UInt8}, LP iss irs τ u0 Q u' v' x' f d' → LP iss irs τ u0 ((Q.does (rdA 0)).does (rdA 1)) u' v' x' f [] ∧ ((Q.does (rdA 0)).does (rdA 1)).wr 0 = Q.wr 0 ∧ (((Q.does (rdA 0)).does (rdA 1)).c 0).shut = (Q.c 0).shut := fun {Q u' v' x' d'} hq => by
    have h1 := hq.rd0 hf
    have h2 := h1.rd1 hf
    refine ⟨h2, ?_, ?_⟩
    · rw [PS.rd_wr (by omega), PS.rd_wr (by omega)]
    · rw [PS.rd_shut (by omega), PS.rd_shut (by omega)]
  unfold PS.iter
  unfold PS.busy at hb
  by_cases h0 : (P.bag 0).length = 0
  · rw [if_pos h0]
    obtain ⟨v', d', e1, e2, e3, h1⟩ := h.gv1 hf (List.eq_nil_of_length_eq_zero h0) (by omega)
    obtain ⟨k1, k2, k3⟩ := key h1
    exact ⟨u, v', x, Nat.le_refl _, e1, k2.trans e2, k3.trans e3, k1⟩
  · rw [if_neg h0]
    obtain ⟨u', x', e1, e2, e3, h1⟩ := h.gv0 hf (by omega)
    obtain ⟨k1, k2, k3⟩ := key h1
    exact ⟨u', v, x', e1, Nat.le_refl _, k2.trans e2, k3.trans e3, k1⟩
end
end Go.Proofs.Ytjhnnnklfhbebaa
namespace Go.Proofs.Ytjhnnnklfhbebaa
open Go.RowKit
set_option linter.unusedVariables false
set_option linter.unusedSimpArgs false
namespace TS
variable {s t : TS} {iss irs u v x : Nat} {Wr rd : List UInt8} {p : Pk}
/-- Time passes, where nothing is under way. -/
theorem la_tick (h : LA iss irs Wr s x x) (hx : x = 1 + Wr.length + s.shut.toNat) (hi : s.idle ≤ 126) (hpk : s.pack = []) :
    LA iss irs Wr s.tick.empty x x ∧ s.tick.shut = s.shut ∧ s.tick.state = 3 ∧ s.tick.idle = s.idle + 1 ∧ (s.tick.pack = [] ∨ ∃ q, s.tick.pack = [q] ∧ q.fl = 2 ∧ q.data = [] ∧ q.seq = m32 (iss + (x - 1)) ∧ q.ack = m32 (irs + 1)) := by
  have ho : s.out = [] := by
    rw [h.out, List.drop_of_length_le]
    omega
  have hd : ¬ s.dead = true := by
    unfold TS.dead
    rw [h.st]
    decide
  have et : (if s.nxt = s.una ∧ s.out.length = 0 then 0 else s.timer + 1) = 0 := if_pos ⟨by rw [h.nxt, h.una], by rw [ho]; rfl⟩
  unfold TS.tick
  rw [if_neg hd]
  dsimp only
  rw [et]
  rw [if_neg (by omega), if_neg (by omega)]
  split
  · refine ⟨h.of rfl rfl rfl rfl rfl rfl rfl rfl rfl rfl rfl rfl rfl rfl rfl, rfl, h.st, rfl, .inr ⟨({ s with idle := s.idle + 1, timer := 0 } : TS).mkp 2 (m32 (s.iss + (s.una - 1))) [], ?_, rfl, rfl, ?_, ?_⟩⟩
    · show s.pack ++ [_] = _
      rw [hpk]
      rfl
    · show m32 (s.iss + (s.una - 1)) = _
      rw [h.nm, h.una]
    · show m32 (s.irs + s.rcv) = _
      rw [h.ir, h.rcv]
  · exact ⟨h.of rfl rfl rfl rfl rfl rfl rfl rfl rfl rfl rfl rfl rfl rfl rfl, rfl, h.st, rfl, .inl hpk⟩
theorem lb_tick (h : LB iss irs Wr t v rd) (h3 : t.state = 3) (hi : t.idle ≤ 126) (hpk : t.pack = []) :
    LB iss irs Wr t.tick.empty v rd ∧ t.tick.state = 3 ∧ t.tick.idle = t.idle + 1 ∧ (t.tick.pack = [] ∨ ∃ q, t.tick.pack = [q] ∧ q.fl = 2 ∧ q.data = [] ∧ q.seq = m32 irs ∧ q.ack = m32 (iss + v) ∧ q.wn = 1024) := by
  obtain ⟨h1, h2⟩ := h.una h3
  have hd : ¬ t.dead = true := by
    unfold TS.dead
    rw [h3]
    decide
  have et : (if t.nxt = t.una ∧ t.out.length = 0 then 0 else t.timer + 1) = 0 := if_pos ⟨by rw [h1, h2], by rw [h.out]; rfl⟩
  unfold TS.tick
  rw [if_neg hd]
  dsimp only
  rw [et]
  rw [if_neg (by omega), if_neg (by omega)]
  split
  · refine ⟨h.of rfl rfl rfl rfl rfl rfl rfl rfl rfl rfl rfl rfl rfl rfl, h3, rfl, .inr ⟨({ t with idle := t.idle + 1, timer := 0 } : TS).mkp 2 (m32 (t.iss + (t.una - 1))) [], ?_, rfl, rfl, ?_, ?_, ?_⟩⟩
    · show t.pack ++ [_] = _
      rw [hpk]
      rfl
    · show m32 (t.iss + (t.una - 1)) = _
      rw [h.nm, h1]
      rfl
    · show m32 (t.irs + t.rcv) = _
      rw [h.ir, h.rcv]
    · show ((1024 - t.inn.length : Nat) : Int) = 1024
      rw [h.inn]
      rfl
  · exact ⟨h.of rfl rfl rfl rfl rfl rfl rfl rfl rfl rfl rfl rfl rfl rfl, h3, rfl, .inl hpk⟩
end TS
theorem Drains.same {k j : Nat} {P Q R : PS} (h : Drains k P Q) (g : Drains j P R) : Q = R := by
  induction h generalizing j with
  | nil hn => exact (g.done hn).symm
  | cons hb _ ih =>
    obtain ⟨j0, _, g0⟩ := g.more hb
    exact ih g0
theorem Settles.same {t : Nat} {P Q R : PS} (h : Settles t P Q) (g : Settles t P R) : Q = R := by
  induction h with
  | nil =>
    cases g with
    | nil => rfl
  | cons hd _ _ ih =>
    cases g with
    | cons gd _ gs =>
      have := hd.same gd
      subst this
      exact ih gs
section
variable {iss irs τ u0 u v x f : Nat} {P Q : PS} {d : List UInt8}
/-- All comes. -/
theorem LP.drain : ∀ (f : Nat) {P : PS} {u v x : Nat}, LP iss irs τ u0 P u v x f [] → f ≤ 101 → ∃ k Q u' v' x' f', k ≤ f ∧ Drains k P Q ∧ ¬ Q.busy ∧ u ≤ u' ∧ v ≤ v' ∧ Q.wr 0 = P.wr 0 ∧ (Q.c 0).shut = (P.c 0).shut ∧ f' ≤ f ∧ LP iss irs τ u0 Q u' v' x' f' []
  | f, P, u, v, x, h, hf => by
    by_cases hb : P.busy
    · have hl := h.len
      have hb2 := hb
      unfold PS.busy at hb2
      match f, h, hf, hl with
      | 0, h, hf, hl => omega
      | f + 1, h, hf, hl =>
        obtain ⟨u1, v1, x1, e1, e2, e3, e4, h1⟩ := h.iter (by omega) hb
        obtain ⟨k, Q, u2, v2, x2, f2, a1, a2, a3, a4, a5, a6, a7, a8, a9⟩ := LP.drain f h1 (by omega)
        exact ⟨k + 1, Q, u2, v2, x2, f2, by omega, .cons hb a2, a3, by omega, by omega, a6.trans e3, a7.trans e4, by omega, a9⟩
    · exact ⟨0, P, u, v, x, f, Nat.zero_le _, .nil hb, hb, Nat.le_refl _, Nat.le_refl _, rfl, rfl, Nat.le_refl _, h⟩
/-- Nothing is under way. -/
theorem LP.quiet (h : LP iss irs τ u0 P u v x f []) (hb : ¬ P.busy) : u = x ∧ v = x ∧ x = 1 + (P.wr 0).length + (P.c 0).shut.toNat ∧ (P.c 1).state = 3 ∧ P.bag 0 = [] ∧ P.bag 1 = [] ∧ LP iss irs τ u0 P x x x 0 [] := by
  unfold PS.busy at hb
  have b0 : P.bag 0 = [] := List.eq_nil_of_length_eq_zero (by omega)
  have b1 : P.bag 1 = [] := List.eq_nil_of_length_eq_zero (by omega)
  have hvx : v = x := by
    obtain ⟨w1, w0, l1, _⟩ := h.ln
    rw [b1] at l1
    exact l1.1
  have huv : u = v := by
    rcases h.cov with e | ⟨q, hq, _⟩
    · exact e
    · rw [b0] at hq
      cases hq
  have hx : x = 1 + (P.wr 0).length + (P.c 0).shut.toNat := by
    rcases h.full with e | ⟨q, hq, _⟩ | e
    · exact e
    · rw [b0] at hq
      cases hq
    · omega
  have h3 : (P.c 1).state = 3 := by
    have e2 : (P.c 1).state = 3 ∨ (P.c 1).state = 2 := h.b.st
    rcases e2 with e | e
    · exact e
    · exact absurd b1 (h.two e)
  have hux : u = x := huv.trans hvx
  refine ⟨hux, hvx, hx, h3, b0, b1, h.pg, ?_, ?_, h.bi, h.dl, ?_, .inl rfl, .inl hx, h.two, ?_, ?_⟩
  · have := h.a
    rw [hux] at this
    exact this
  · have := h.b
    rw [hvx] at this
    exact this
  · refine ⟨0, 0, ?_, ?_, ?_⟩
    · rw [b1]
      exact ⟨rfl, rfl⟩
    · rw [b0]
      exact ⟨Nat.le_refl _, rfl⟩
    · rw [if_pos hx]
      exact Nat.le_refl _
  · have := h.ia
    rw [hux] at this
    exact this
  · have := h.ib
    rw [hvx] at this
    exact this
/-- Who is told that something came has waited for nothing. -/
theorem LP.fresh (h : LP iss irs τ u0 P x x x f d) (hu : u0 < x) : LP iss irs 0 x P x x x f d := ⟨h.pg, h.a, h.b, h.bi, h.dl, h.ln, h.cov, h.full, h.two, ⟨Nat.le_of_eq (h.ia.2 hu), fun e => absurd e (Nat.lt_irrefl _)⟩, ⟨Nat.le_of_eq (h.ib.2 hu), fun e => absurd e (Nat.lt_irrefl _)⟩⟩
theorem LP.old (h : LP iss irs τ u0 P x x x f d) : LP iss irs τ x P x x x f d := ⟨h.pg, h.a, h.b, h.bi, h.dl, h.ln, h.cov, h.full, h.two, ⟨h.ia.1, fun e => absurd e (Nat.lt_irrefl _)⟩, ⟨h.ib.1, fun e => absurd e (Nat.lt_irrefl _)⟩⟩
theorem LP.tk0 (h : LP iss irs τ x P x x x f []) (hx : x = 1 + (P.wr 0).length + (P.c 0).shut.toNat) (hf : f ≤ 100) (ht : τ ≤ 126) : LP iss irs (τ + 1) x (P.does (tkA 0)) x x x (f + 2) [] ∧ (P.does (tkA 0)).wr 0 = P.wr 0 ∧ ((P.does (tkA 0)).c 0).shut = (P.c 0).shut ∧ (P.does (tkA 0)).bag 0 = P.bag 0 ∧ (P.does (tkA 0)).c 1 = P.c 1 := by
  obtain ⟨m, pg⟩ := h.pg
  have hl := h.len
  have p0 := pg.fine.empty 0 (by omega)
  have p1 := pg.fine.empty 1 (by omega)
  have hia := h.ia.1
  obtain ⟨t1, t2, t3, t4, t5⟩ := TS.la_tick h.a hx (by omega) p0
  have hpl : (P.c 0).tick.pack.length ≤ 1 := by
    rcases t5 with e | ⟨q, e, _⟩
    · rw [e]; exact Nat.zero_le _
    · rw [e]; exact Nat.le_refl _
  have hL := does_tk (P := P) (i := 0) (by omega) p1 (by rw [t3]; intro e; cases e) (by
    show (P.bag 1).length + _ ≤ 300
    omega)
  have hc0 : (P.does (tkA 0)).c 0 = (P.c 0).tick.empty := hL.c
  have hc1 : (P.does (tkA 0)).c 1 = P.c 1 := hL.co
  have hb0 : (P.does (tkA 0)).bag 0 = P.bag 0 := hL.bag
  have hb1 : (P.does (tkA 0)).bag 1 = P.bag 1 ++ (P.c 0).tick.pack := hL.bago
  have hwr : (P.does (tkA 0)).wr 0 = P.wr 0 := hL.wr
  have hrd : (P.does (tkA 0)).rd 1 = P.rd 1 := hL.rdo
  have hst : ((P.does (tkA 0)).c 0).shut = (P.c 0).shut := by rw [hc0]; exact t2
  refine ⟨⟨⟨_, pg.does _⟩, ?_, ?_, ?_, Nat.zero_le _, ?_, .inl rfl, ?_, ?_, ?_, ?_⟩, hwr, hst, hb0, hc1⟩
  · rw [hc0, hwr]; exact t1
  · rw [hc1, hwr, hrd]; exact h.b
  · rw [hc1]; exact h.bi
  · rw [hb0, hb1, hwr, hst, if_pos hx]
    obtain ⟨w1, w0, l1, l0, hw⟩ := h.ln
    rw [if_pos hx] at hw
    rcases t5 with e | ⟨q, e, g1, g2, g3, g4⟩
    · rw [e, List.append_nil]
      exact ⟨w1, w0, l1, l0, by omega⟩
    · rw [e]
      exact ⟨w1 + 2, w0, ln_app _ l1 ⟨g4, h.a.u1, .inr (.inl ⟨g1, g2, g3, 0, rfl, rfl, rfl⟩)⟩, l0, by omega⟩
  · rw [hwr, hst]; exact .inl hx
  · rw [hc1, hb1]
    intro e
    have := h.two e
    cases ep : P.bag 1 with
    | nil => exact absurd ep this
    | cons z zs => intro e; cases e
  · rw [hc0]
    refine ⟨?_, fun e => absurd e (Nat.lt_irrefl _)⟩
    show (P.c 0).tick.idle ≤ τ + 1
    omega
  · rw [hc1]
    exact ⟨Nat.le_succ_of_le h.ib.1, fun e => absurd e (Nat.lt_irrefl _)⟩
theorem LP.tk1 (h : LP iss irs (τ + 1) x P x x x f []) (hx : x = 1 + (P.wr 0).length + (P.c 0).shut.toNat) (h3 : (P.c 1).state = 3) (hf : f ≤ 100) (ht : τ ≤ 126) (hib : (P.c 1).idle ≤ τ) (hb : P.bag 0 = []) : LP iss irs (τ + 1) x (P.does (tkA 1)) x x x (f + 2) [] ∧ (P.does (tkA 1)).wr 0 = P.wr 0 ∧ ((P.does (tkA 1)).c 0).shut = (P.c 0).shut ∧ ∀ p, p ∈ (P.does (tkA 1)).bag 0 → p.wn = 1024 := by
  obtain ⟨m, pg⟩ := h.pg
  have hl := h.len
  have p0 := pg.fine.empty 0 (by omega)
  have p1 := pg.fine.empty 1 (by omega)
  have hB0 : LB iss irs (P.wr 0) (P.c 1) x (P.rd 1) := by
    have := h.b
    rw [List.append_nil, inn_eq h.bi] at this
    exact this
  obtain ⟨t1, t3, t4, t5⟩ := TS.lb_tick hB0 h3 (by omega) p1
  have hpl : (P.c 1).tick.pack.length ≤ 1 := by
    rcases t5 with e | ⟨q, e, _⟩
    · rw [e]; exact Nat.zero_le _
    · rw [e]; exact Nat.le_refl _
  have hL := does_tk (P := P) (i := 1) (by omega) p0 (by rw [t3]; intro e; cases e) (by
    show (P.bag 0).length + _ ≤ 300
    omega)
  have hc1 : (P.does (tkA 1)).c 1 = (P.c 1).tick.empty := hL.c
  have hc0 : (P.does (tkA 1)).c 0 = P.c 0 := hL.co
  have hb1 : (P.does (tkA 1)).bag 1 = P.bag 1 := hL.bag
  have hb0 : (P.does (tkA 1)).bag 0 = (P.c 1).tick.pack := by
    have := hL.bago
    rw [show P.bag (1 - 1) = [] from hb, List.nil_append] at this
    exact this
  have hwr : (P.does (tkA 1)).wr 0 = P.wr 0 := hL.wro
  have hrd : (P.does (tkA 1)).rd 1 = P.rd 1 := hL.rd
  refine ⟨⟨⟨_, pg.does _⟩, ?_, ?_, ?_, Nat.zero_le _, ?_, .inl rfl, ?_, ?_, ?_, ?_⟩, hwr, by rw [hc0], ?_⟩
  · rw [hc0, hwr]; exact h.a
  · rw [hc1, hwr, hrd, List.append_nil, inn_eq t1.inn]; exact t1
  · rw [hc1]; exact t1.inn
  · rw [hb0, hb1, hwr, hc0, if_pos hx]
    obtain ⟨w1, w0, l1, l0, hw⟩ := h.ln
    rw [if_pos hx] at hw
    rcases t5 with e | ⟨q, e, g1, g2, g3, g4, g5⟩
    · rw [e]
      exact ⟨w1, 0, l1, ⟨Nat.le_refl _, rfl⟩, by omega⟩
    · rw [e]
      refine ⟨w1, 2, l1, ⟨g1, g2, by omega, x, 0, Nat.le_refl _, g4, ?_, .inr ⟨g3, rfl⟩, Nat.le_refl _, rfl⟩, by omega⟩
      have := h.a.lim
      omega
  · rw [hwr, hc0]; exact .inl hx
  · rw [hc1]
    intro e
    have e : (P.c 1).tick.state = 2 := e
    omega
  · rw [hc0]; exact h.ia
  · rw [hc1]
    refine ⟨?_, fun e => absurd e (Nat.lt_irrefl _)⟩
    show (P.c 1).tick.idle ≤ τ + 1
    omega
  · rw [hb0]
    rcases t5 with e | ⟨q, e, _, _, _, _, g5⟩
    · rw [e]
      intro p hp
      cases hp
    · rw [e]
      intro p hp
      rw [List.mem_singleton.1 hp]
      exact g5
/-- Nothing is under way but what asks whether one is there. -/
structure QT (iss irs τ : Nat) (P : PS) (x : Nat) : Prop where
  lp : LP iss irs τ x P x x x 4 []
  xe : x = 1 + (P.wr 0).length + (P.c 0).shut.toNat
  wn : ∀ p, p ∈ P.bag 0 → p.wn = 1024
theorem LP.more {f' : Nat} (h : LP iss irs τ u0 P u v x f d) (hf : f ≤ f') : LP iss irs τ u0 P u v x f' d := ⟨h.pg, h.a, h.b, h.bi, h.dl, by
  obtain ⟨w1, w0, l1, l0, hw⟩ := h.ln
  exact ⟨w1, w0, l1, l0, by omega⟩, h.cov, h.full, h.two, h.ia, h.ib⟩
theorem LP.rest (h : LP iss irs τ x P x x x 0 []) (hx : x = 1 + (P.wr 0).length + (P.c 0).shut.toNat) (h3 : (P.c 1).state = 3) (ht : τ ≤ 126) : QT iss irs (τ + 1) P.rest x ∧ P.rest.wr 0 = P.wr 0 ∧ (P.rest.c 0).shut = (P.c 0).shut := by
  have h1 := (h.rd0 (by omega)).rd1 (by omega)
  have e1 : ((P.does (rdA 0)).does (rdA 1)).wr 0 = P.wr 0 := by rw [PS.rd_wr (by omega), PS.rd_wr (by omega)]
  have e2 : (((P.does (rdA 0)).does (rdA 1)).c 0).shut = (P.c 0).shut := by rw [PS.rd_shut (by omega), PS.rd_shut (by omega)]
  obtain ⟨R, hR⟩ : ∃ R, (P.does (rdA 0)).does (rdA 1) = R := ⟨_, rfl⟩
  rw [hR] at h1 e1 e2
  have hl := h1.len
  have hq := h1.quiet (by unfold PS.busy; omega)
  obtain ⟨k1, k2, k3, k4, k5⟩ := h1.tk0 hq.2.2.1 (by omega) ht
  obtain ⟨j1, j2, j3, j4⟩ := k1.tk1 (by rw [k2, k3]; exact hq.2.2.1) (by rw [k5]; exact hq.2.2.2.1) (by omega) ht (by rw [k5]; exact h1.ib.1) (by rw [k4]; exact hq.2.2.2.2.1)
  have e : P.rest = (R.does (tkA 0)).does (tkA 1) := by
    unfold PS.rest
    rw [hR]
  rw [e]
  refine ⟨⟨j1, ?_, j4⟩, j2.trans (k2.trans e1), j3.trans (k3.trans e2)⟩
  rw [j2, k2, j3, k3]
  exact hq.2.2.1
/-- A round of settle. -/
theorem LP.round (h : LP iss irs τ u0 P u v x f []) (hf : f ≤ 100) (ht : τ ≤ 126) : ∃ k Q x', k ≤ 2000 ∧ Drains k P Q ∧ QT iss irs (τ + 1) Q.rest x' ∧ (u0 < x' → QT iss irs 1 Q.rest x') ∧ Q.rest.wr 0 = P.wr 0 ∧ (Q.rest.c 0).shut = (P.c 0).shut := by
  obtain ⟨k, Q, u', v', x', f', a1, a2, a3, a4, a5, a6, a7, a8, a9⟩ := LP.drain f h (by omega)
  obtain ⟨b1, b2, b3, b4, b5, b6, b7⟩ := a9.quiet a3
  obtain ⟨c1, c2, c3⟩ := b7.old.rest b3 b4 ht
  refine ⟨k, Q, x', by omega, a2, c1, fun hu => ?_, c2.trans a6, c3.trans a7⟩
  exact ((b7.fresh hu).rest b3 b4 (by omega)).1
theorem QT.settles : ∀ (t : Nat) {τ x : Nat} {P : PS}, QT iss irs τ P x → τ + t ≤ 126 → ∃ R, Settles t P R ∧ QT iss irs (τ + t) R x ∧ R.wr 0 = P.wr 0 ∧ (R.c 0).shut = (P.c 0).shut
  | 0, τ, x, P, h, ht => ⟨P, .nil, h, rfl, rfl⟩
  | t + 1, τ, x, P, h, ht => by
    obtain ⟨k, Q, x', b1, b2, b3, _, b4, b5⟩ := h.lp.round (by omega) (by omega)
    have hx : x' = x := by
      rw [b3.xe, b4, b5]
      exact h.xe.symm
    rw [hx] at b3
    obtain ⟨R, c1, c2, c3, c4⟩ := QT.settles t b3 (by omega)
    refine ⟨R, .cons b2 (by omega) c1, ?_, c3.trans b4, c4.trans b5⟩
    rw [show τ + (t + 1) = τ + 1 + t by omega]
    exact c2
/-- Settle. -/
theorem LP.settles (h : LP iss irs τ u0 P u v x f []) (hf : f ≤ 100) (t : Nat) (ht : τ + t + 1 ≤ 126) : ∃ R x', Settles (t + 1) P R ∧ QT iss irs (τ + t + 1) R x' ∧ (u0 < x' → QT iss irs (t + 1) R x') ∧ R.wr 0 = P.wr 0 ∧ (R.c 0).shut = (P.c 0).shut := by
  obtain ⟨k, Q, x', b1, b2, b3, b6, b4, b5⟩ := h.round hf (by omega)
  obtain ⟨R, c1, c2, c3, c4⟩ := QT.settles t b3 (by omega)
  refine ⟨R, x', .cons b2 (by omega) c1, ?_, fun hu => ?_, c3.trans b4, c4.trans b5⟩
  · rw [show τ + t + 1 = τ + 1 + t by omega]
    exact c2
  · -- the same pair, seen from the fresh one
    obtain ⟨R', d1, d2, d3, d4⟩ := QT.settles t (b6 hu) (by omega)
    have : R' = R := Settles.same d1 c1
    rw [← this, Nat.add_comm t 1]
    exact d2
end
end Go.Proofs.Ytjhnnnklfhbebaa
