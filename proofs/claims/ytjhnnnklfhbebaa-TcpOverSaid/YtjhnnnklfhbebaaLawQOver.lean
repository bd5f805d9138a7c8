/- TcpOver: plain, and the walk. -/
import Derived.Test.YtjhnnnklfhbebaaTiH
namespace Go.Proofs.Ytjhnnnklfhbebaa
open Go.RowKit
set_option linter.unusedVariables false
set_option linter.unusedSimpArgs false
namespace TS
theorem dead45 {s : TS} (h : s.state = 4 ∨ s.state = 5) : s.dead = true := by
  unfold TS.dead
  exact decide_eq_true (by omega)
theorem closed45 {s : TS} (h : s.state = 4 ∨ s.state = 5) : s.closed = true := by
  unfold TS.closed
  rw [dead45 h, Bool.or_true]
theorem tick45 {s : TS} (h : s.state = 4 ∨ s.state = 5) : s.tick.state = s.state := by
  unfold TS.tick
  rw [if_pos (dead45 h)]
theorem abort45 {s : TS} (h : s.state = 4 ∨ s.state = 5) : s.abort.state = s.state := by
  unfold TS.abort
  rw [if_pos (dead45 h)]
theorem room45 {s : TS} (h : s.state = 4 ∨ s.state = 5) : s.room = 0 := by
  unfold TS.room
  rw [if_pos (closed45 h)]
theorem push45 {s : TS} (h : s.state ≠ 3) : s.push = s := by
  unfold TS.push
  rw [if_neg h]
theorem close45 {s : TS} (h : s.state = 4 ∨ s.state = 5) : s.close.state = s.state := by
  unfold TS.close
  split
  · have e := push45 (s := ({ s with shut := true } : TS)) (show s.state ≠ 3 by omega)
    rw [e]
  · rfl
theorem read45 {s : TS} (h : s.state = 4 ∨ s.state = 5) (n : Int) : (s.read n).2.state = s.state := by
  unfold TS.read
  split
  · rfl
  · dsimp only
    split
    · rfl
    · rfl
theorem refuse_st (s : TS) (p : Pk) : (s.refuse p).state = s.state := by
  unfold TS.refuse
  split <;> rfl
theorem credit_st (s : TS) (p : Pk) : (s.credit p).2.state = s.state := by
  unfold TS.credit
  split
  · rfl
  · split
    · rfl
    · split <;> rfl
theorem keep_st (s : TS) (p : Pk) : (s.keep p).state = s.state := by
  unfold TS.keep
  dsimp only
  split <;> rfl
theorem fill_st (s : TS) : s.fill.state = s.state := by
  unfold TS.fill
  dsimp only
  split <;> rfl
theorem talk4 {s : TS} (h : s.state = 4) (p : Pk) : (s.talk p).state = 4 := by
  unfold TS.talk
  rw [if_neg (show ¬ s.state = 2 by omega)]
  dsimp only
  split
  · exact h
  · split
    · exact h
    · have h2 : (if (s.credit p).2.fin = false then ((s.credit p).2.keep p).fill else (s.credit p).2).state = 4 := by
        split
        · rw [fill_st, keep_st, credit_st, h]
        · rw [credit_st, h]
      generalize (if (s.credit p).2.fin = false then ((s.credit p).2.keep p).fill else (s.credit p).2) = s2 at h2 ⊢
      have h3 : (if 0 < takesN p.fl p.data.length then s2.ack else s2).state = 4 := by
        split
        · exact h2
        · exact h2
      generalize (if 0 < takesN p.fl p.data.length then s2.ack else s2) = s3 at h3 ⊢
      rw [push45 (show s3.state ≠ 3 by omega)]
      split
      · rfl
      · exact h3
theorem takes4 {s : TS} (h : s.state = 4) (p : Pk) : (s.takes p).state = 4 := by
  unfold TS.takes
  split
  · rw [if_neg (fun e => e.1 h)]
    exact h
  · split
    · rename_i e
      have := e.2.1
      omega
    · split
      · exact h
      · split
        · exact h
        · split
          · rename_i e
            have := e.1
            omega
          · exact talk4 h p
theorem take45 {s : TS} (h : s.state = 4 ∨ s.state = 5) (p : Pk) : (s.take p).state = s.state := by
  unfold TS.take
  split
  · rfl
  · dsimp only
    split
    · rw [refuse_st]
    · have h4 : s.state = 4 := h.resolve_right ‹_›
      rw [if_neg (show ¬ s.state = 1 by omega), takes4 (s := { s with idle := 0 }) h4 p, h4]
theorem tell7 (s : TS) : ∃ (b c d e : Int) (f g : Bool), s.tell = [.int .i64 (s.state : Int), .int .i64 b, .int .i64 c, .int .i64 d, .int .i64 e, .bool f, .bool g] := by
  unfold TS.tell
  split
  · rename_i h
    rw [h]
    exact ⟨0, 0, 0, 0, false, false, rfl⟩
  · exact ⟨_, _, _, _, _, _, rfl⟩
end TS
theorem PlayAt.below {w0 W : World} {g m : Nat} {P : PS} (h : PlayAt w0 g P m W) : Below w0.heap.size w0 W := by
  obtain ⟨V, h1, h2⟩ := h
  exact h1.2
/-- A pair whose endpoints have gone on by themselves, behind so many calls. -/
def OvI (w0 : World) (g : Nat) (kf : Nat → Option Nat) (n : Nat) (Q : PS → Prop) (W : World) : Prop :=
  ∃ P V, Made w0 (pItems g P V) W ∧ V.k = kf ∧ (∀ j, j < 2 → (P.c j).Fine (400 + n) ∧ (P.c j).pack.length ≤ 1100 * n) ∧ Q P
def StQ (i st : Nat) (P : PS) : Prop := (P.c i).state = st
section
variable {w0 W W' : World} {g n i st : Nat} {kf : Nat → Option Nat} {Q : PS → Prop}
theorem OvI.ext (h : OvI w0 g kf n Q W) (hb : Below W.heap.size W W') : OvI w0 g kf n Q W' := by
  obtain ⟨P, V, h1, h2⟩ := h
  exact ⟨P, V, h1.ext hb, h2⟩
theorem OvI.more (h : OvI w0 g kf n Q W) {m : Nat} (hm : n ≤ m) {Q' : PS → Prop} (hq : ∀ P, Q P → Q' P) : OvI w0 g kf m Q' W := by
  obtain ⟨P, V, h1, h2, h3, h4⟩ := h
  exact ⟨P, V, h1, h2, fun j hj => ⟨(h3 j hj).1.more (by omega), by have := (h3 j hj).2; omega⟩, hq P h4⟩
theorem OvI.below (h : OvI w0 g kf n Q W) : Below w0.heap.size w0 W := by
  obtain ⟨P, V, h1, h2⟩ := h
  exact h1.2
theorem ov_did {P : PS} {V : PV} (hm : Made w0 (pItems g P V) W) (hk : V.k = kf) (hf : ∀ j, j < 2 → (P.c j).Fine (400 + n) ∧ (P.c j).pack.length ≤ 1100 * n) (hi : i < 2) {s' : TS} {v : Value} {e : Ending}
    (hd : DidJ (fun b => b < w0.heap.size) (pItems g P V) W (1 + i) (V.k i) (V.v i) (P.c i) s' v e W') (hw : TS.Went (P.c i) s') (hs : s'.state = st) : e = .returned v ∧ OvI w0 g kf (n + 1) (StQ i st) W' := by
  obtain ⟨rfl, vp', h2⟩ := hm.did (p_side hi) hd
  rw [p_set_side hi] at h2
  refine ⟨rfl, _, _, h2, hk, fun j hj => ?_, ?_⟩
  · by_cases e : j = i
    · subst e
      show (fset P.c j s' j).Fine _ ∧ (fset P.c j s' j).pack.length ≤ _
      rw [fset_at]
      obtain ⟨ps, e2, hl⟩ := hw.pre
      exact ⟨((hf j hj).1.went hw).more (by omega), by rw [e2, List.length_append]; have := (hf j hj).2; omega⟩
    · show (fset P.c i s' j).Fine _ ∧ (fset P.c i s' j).pack.length ≤ _
      rw [fset_no _ _ e]
      exact ⟨(hf j hj).1.more (by omega), by have := (hf j hj).2; omega⟩
  · show (fset P.c i s' i).state = st
    rw [fset_at]
    exact hs
theorem ov_tick (h : OvI w0 g kf n (StQ i st) W) (hi : i < 2) (hn : n ≤ 300) (hst : st = 4 ∨ st = 5) : Calls Try.prog 28 #[ptr (kf i)] W fun e W' => e = .returned (.tuple #[]) ∧ OvI w0 g kf (n + 1) (StQ i st) W' := by
  obtain ⟨P, V, h1, rfl, h3, rfl⟩ := h
  have hf := h3 i hi
  refine (side_tick h1.1 (p_side hi) hf.1.ok (by omega)).mono ?_
  intro e W' hd
  exact ov_did h1 rfl h3 hi hd (TS.went_tick hf.1.ok hf.1.qu) (TS.tick45 hst)
theorem ov_close (h : OvI w0 g kf n (StQ i st) W) (hi : i < 2) (hn : n ≤ 300) (hst : st = 4 ∨ st = 5) : Calls Try.prog 29 #[ptr (kf i)] W fun e W' => e = .returned (.tuple #[]) ∧ OvI w0 g kf (n + 1) (StQ i st) W' := by
  obtain ⟨P, V, h1, rfl, h3, rfl⟩ := h
  have hf := h3 i hi
  refine (side_close h1.1 (p_side hi) hf.1.ok (by omega)).mono ?_
  intro e W' hd
  exact ov_did h1 rfl h3 hi hd (TS.went_close hf.1.ok hf.1.qu) (TS.close45 hst)
theorem ov_abort (h : OvI w0 g kf n (StQ i st) W) (hi : i < 2) (hn : n ≤ 300) (hst : st = 4 ∨ st = 5) : Calls Try.prog 30 #[ptr (kf i)] W fun e W' => e = .returned (.tuple #[]) ∧ OvI w0 g kf (n + 1) (StQ i st) W' := by
  obtain ⟨P, V, h1, rfl, h3, rfl⟩ := h
  have hf := h3 i hi
  refine (side_abort h1.1 (p_side hi) (hf.1.ok.bd (by omega))).mono ?_
  intro e W' hd
  exact ov_did h1 rfl h3 hi hd (TS.went_abort0 hf.1.ok hf.1.qu) (TS.abort45 hst)
theorem ov_take (h : OvI w0 g kf n (StQ i st) W) (hi : i < 2) (hn : n ≤ 300) (hst : st = 4 ∨ st = 5) (p : Pk) (A : Option Addr) (m c : Nat) (hl : p.data.length = m) (hmc : m ≤ c) (hp : TS.PkIn p) (hr : RB w0 A p.data) :
    Calls Try.prog 17 #[ptr (kf i), .agg (p.cs A m c).toArray] W fun e W' => e = .returned (.tuple #[]) ∧ OvI w0 g kf (n + 1) (StQ i st) W' := by
  obtain ⟨P, V, h1, rfl, h3, rfl⟩ := h
  have hf := h3 i hi
  refine (side_take h1.1 (p_side hi) hf.1.ok hf.1.qu (by omega) (by have := hf.1.sent; omega) p A m c hl hmc hp (hr.ext h1.2) (fun h0 b o e hb => ?_)).mono ?_
  · obtain ⟨b', o', e', hc⟩ := hr 0 (by omega)
    rw [e] at e'
    injection e' with e'
    injection e' with e5 e6
    subst e5
    exact h1.1.own_no b ⟨1 + i, _, p_side hi, hb⟩ (World.block_lt_of_cell? w0 _ hc)
  · intro e W' hd
    exact ov_did h1 rfl h3 hi hd (took_take hf.1.ok hf.1.qu hp).went (TS.take45 hst p)
theorem ov_write (h : OvI w0 g kf n (StQ i st) W) (hi : i < 2) (hst : st = 4 ∨ st = 5) (A : Option Addr) (m c : Nat) :
    Calls Try.prog 31 #[ptr (kf i), .slice A m c] W fun e W' => e = .returned (.int .i64 0) ∧ OvI w0 g kf (n + 1) (StQ i st) W' := by
  obtain ⟨P, V, h1, rfl, h3, rfl⟩ := h
  have hc : (P.c i).closed = true := TS.closed45 hst
  have hx := h1.1.get _ (p_side hi)
  have hout : ∀ W', Below W.heap.size W W' → OvI w0 g V.k (n + 1) (StQ i (P.c i).state) W' := fun W' hb => ((show OvI w0 g V.k n (StQ i (P.c i).state) W from ⟨P, V, h1, rfl, h3, rfl⟩).ext hb).more (by omega) fun _ h => h
  cases hk : V.k i with
  | some k =>
    rw [hk] at hx
    refine (write_closed hx hc A m c).mono ?_
    rintro e w' ⟨rfl, rfl⟩
    exact ⟨rfl, hout _ (Below.refl _ _)⟩
  | none =>
    refine (write_nil A m c W).mono ?_
    rintro e w' ⟨rfl, rfl⟩
    exact ⟨rfl, hout _ (Below.refl _ _)⟩
theorem ov_read (h : OvI w0 g kf n (StQ i st) W) (hi : i < 2) (hn : n ≤ 300) (hst : st = 4 ∨ st = 5) (x : Int) :
    Calls Try.prog 33 #[ptr (kf i), .int .i64 x] W fun e W' => (∃ v, e = .returned v) ∧ OvI w0 g kf (n + 1) (StQ i st) W' := by
  obtain ⟨P, V, h1, rfl, h3, rfl⟩ := h
  have hf := h3 i hi
  refine (h1.read (p_side hi) hf.1 (by omega) (by omega) x).mono ?_
  rintro e W' ⟨v, vp', rfl, h2⟩
  have h4 := h2.1.pop
  rw [p_set_side hi] at h4
  refine ⟨⟨v, rfl⟩, _, _, ⟨h4, h2.2⟩, rfl, fun j hj => ?_, ?_⟩
  · by_cases e : j = i
    · subst e
      show (fset P.c j ((P.c j).read x).2 j).Fine _ ∧ (fset P.c j ((P.c j).read x).2 j).pack.length ≤ _
      rw [fset_at]
      have hw := TS.went_read hf.1.ok hf.1.qu x
      obtain ⟨ps, e2, hl⟩ := hw.pre
      exact ⟨(hf.1.went hw).more (by omega), by rw [e2, List.length_append]; have := hf.2; omega⟩
    · show (fset P.c i ((P.c i).read x).2 j).Fine _ ∧ (fset P.c i ((P.c i).read x).2 j).pack.length ≤ _
      rw [fset_no _ _ e]
      exact ⟨(h3 j hj).1.more (by omega), by have := (h3 j hj).2; omega⟩
  · show (fset P.c i ((P.c i).read x).2 i).state = _
    rw [fset_at]
    exact TS.read45 hst x
theorem ov_room (h : OvI w0 g kf n (StQ i st) W) (hi : i < 2) (hst : st = 4 ∨ st = 5) : Calls Try.prog 32 #[ptr (kf i)] W fun e W' => e = .returned (.int .i64 0) ∧ OvI w0 g kf n (StQ i st) W' := by
  obtain ⟨P, V, h1, rfl, h3, rfl⟩ := h
  refine (side_room h1.1 (p_side hi) (h3 i hi).1.ok).mono ?_
  rintro e W' ⟨rfl, rfl⟩
  exact ⟨by rw [TS.room45 hst]; rfl, P, V, h1, rfl, h3, rfl⟩
/-- The state that End tells. -/
def EndIs (st : Nat) (e : Ending) : Prop := ∃ (b c d x : Int) (f g : Bool), e = .returned (.agg #[.int .i64 (st : Int), .int .i64 b, .int .i64 c, .int .i64 d, .int .i64 x, .bool f, .bool g])
theorem ov_end (h : OvI w0 g kf n Q W) (hi : i < 2) (hq : ∀ P, Q P → Q P) : Calls Try.prog 26 #[ptr (kf i)] W fun e W' => ∃ st, EndIs st e ∧ st ≤ 5 ∧ OvI w0 g kf n (fun P => Q P ∧ StQ i st P) W' := by
  obtain ⟨P, V, h1, rfl, h3, h4⟩ := h
  refine (side_end h1.1 (p_side hi)).mono ?_
  rintro e W' ⟨rfl, hb⟩
  obtain ⟨b, c, d, x, f, y, ht⟩ := TS.tell7 (P.c i)
  exact ⟨_, ⟨b, c, d, x, f, y, by rw [ht]⟩, (h3 i hi).1.ok.st, P, V, h1.ext hb, rfl, h3, h4, rfl⟩
theorem ov_play {P : PS} {m : Nat} (h : PlayAt w0 g P m W) (hm : m ≤ 400) : ∃ kf : Nat → Option Nat, W.cell? ⟨g, 0, none⟩ = some (ptr (kf 0)) ∧ W.cell? ⟨g, 1, none⟩ = some (ptr (kf 1)) ∧ OvI w0 g kf 0 (fun _ => True) W := by
  obtain ⟨V, h1, h2, h3⟩ := h
  have hb := (h1.1.get 0 p_bk).1
  refine ⟨V.k, hb.cell rfl, hb.cell rfl, P, V, h1, rfl, fun j hj => ⟨(h3.fine.fine j hj).more hm, ?_⟩, trivial⟩
  rw [h3.fine.empty j hj]
  exact Nat.zero_le _
end
set_option maxRecDepth 100000 in
set_option maxHeartbeats 4000000 in
theorem over_walk (w : World) (iss irs : Nat) (hi : iss < 4294967296) (hr : irs < 4294967296) (A : Option Addr) (c : Nat) (l : List ActA) (hl : RActs w A l) (hc : l.length ≤ c) (hm : c ≤ maxLen)
    (B : Option Addr) (d : Nat) (more : List DoA) (hd : RDos w B more) (hmc : more.length ≤ d) (hmm : d ≤ maxLen) :
    Calls Try.prog 7 #[.int .u32 (iss : Int), .int .u32 (irs : Int), .slice A l.length c, .slice B more.length d] w fun e w' => e = .returned (.bool true) ∧ Below w.heap.size w w' := by
  have HAW := Lib.hid (fun W => awake_calls W)
  have HFE := Lib.hid (few_calls w A c l hl hc hm)
  have HSH := Lib.hid (short_calls w B d more hd hmc hmm)
  have HRL := Lib.hid hl
  have HRD := Lib.hid hd
  have HBE := Lib.hid (fun W => begun_play W iss irs hi hr)
  obtain ⟨N, hN⟩ : ∃ N, l.length = N := ⟨_, rfl⟩
  obtain ⟨M, hM⟩ : ∃ M, more.length = M := ⟨_, rfl⟩
  have HN := Lib.hid hN
  have HM := Lib.hid hM
  have hNm : N ≤ 9223372036854775807 := by have : c ≤ 9223372036854775807 := hm; omega
  have hMm : M ≤ 9223372036854775807 := by have : d ≤ 9223372036854775807 := hmm; omega
  rw [hN] at HFE hc ⊢
  rw [hM] at HSH hmc ⊢
  clear hl hd hN hM hm hmm hi hr
  go_enter Try.func7, Try.ntmps7
  go_wp2_with fail
  refine HFE.out.mono ?_
  rintro e w1 ⟨⟨b, rfl, hfew⟩, rfl⟩
  clear HFE
  cases b with
  | false =>
    clear HSH HBE hfew
    go_wp2_with fail
    refine (HAW.out _).mono ?_
    rintro e w2 ⟨rfl, hb⟩
    have HB := Lib.hid hb
    clear hb
    go_wp2_with fail
    go_ret
    exact ⟨rfl, HB.out⟩
  | true =>
    have hN4 : N ≤ 400 := hfew rfl
    clear hfew
    go_wp2_with fail
    refine HSH.out.mono ?_
    rintro e w2 ⟨⟨b, rfl, hfew⟩, hb⟩
    have HB2 := Lib.hid hb
    clear HSH hb
    cases b with
    | false =>
      clear HBE hfew
      go_wp2_with fail
      refine (HAW.out _).mono ?_
      rintro e w3 ⟨rfl, hb⟩
      have HB := Lib.hid (ext_trans HB2.out hb)
      clear hb
      go_wp2_with fail
      go_ret
      exact ⟨rfl, HB.out⟩
    | true =>
      have hM1 : M ≤ 150 := hfew rfl
      clear hfew
      go_wp2_with fail
      refine (HBE.out _).mono ?_
      rintro e w3 ⟨g, rfl, hp⟩
      have HP := Lib.hid hp
      have HRL2 := Lib.hid (HRL.out.ext HB2.out)
      have HRD2 := Lib.hid (HRD.out.ext HB2.out)
      clear hp HBE HRL HRD
      go_wp2_with fail
      go_loopg [31] N (fun gk v wr => ∃ m : Nat, v = .int .i64 (m : Int) ∧ m + gk = N ∧ Hid (PlayAt w2 g ((PS.begun iss irs).plays (l.take m)) m wr))
      case atStart => exact ⟨0, rfl, by omega, HP⟩
      case round =>
        obtain ⟨m, rfl, hmg, hinv⟩ := hrel
        by_cases hm : m < N
        · have hmi : (m : Int) < (N : Int) := by omega
          have hwm : IntKind.i64.wrap ((m : Int) + 1) = ((m + 1 : Nat) : Int) := by rw [IntWalk.i64_in _ (by omega)]; omega
          obtain ⟨k, hk⟩ : ∃ k, l[m]? = some k := ⟨_, List.getElem?_eq_getElem (by rw [HN.out]; exact hm)⟩
          obtain ⟨b, o, A', c', rfl, hcell, hat⟩ := HRL2.out.ext (PlayAt.below hinv.out) m k hk
          obtain ⟨q0, q1, q2, q3, q4, q5⟩ : wr.cell? ⟨b, o + m * 6, none⟩ = some (.int .i64 k.op) ∧ wr.cell? ⟨b, o + m * 6 + 1, none⟩ = some (.int .i64 k.side) ∧ wr.cell? ⟨b, o + m * 6 + 2, none⟩ = some (.int .i64 k.at_) ∧ wr.cell? ⟨b, o + m * 6 + 3, none⟩ = some (.int .i64 k.n) ∧ wr.cell? ⟨b, o + m * 6 + 4, none⟩ = some (.slice A' k.b.length c') ∧ wr.cell? ⟨b, o + m * 6 + 5, none⟩ = some (.bool k.stay) := ⟨hcell 0 _ rfl, hcell 1 _ rfl, hcell 2 _ rfl, hcell 3 _ rfl, hcell 4 _ rfl, hcell 5 _ rfl⟩
          have HDO : Hid (∀ W : World, PlayAt w2 g ((PS.begun iss irs).plays (l.take m)) m W → Calls Try.prog 23 #[.pointer (some ⟨g, 0, none⟩), .agg (k.cs A' c').toArray] W fun e W' => e = .returned (.tuple #[]) ∧ PlayAt w2 g (((PS.begun iss irs).plays (l.take m)).does k) (m + 1) W') := Lib.hid (fun W h => by
            obtain ⟨b', o', A2, c2, e2, hcell2, hat2⟩ := HRL2.out m k hk
            have hcc := ((PlayAt.below hinv.out).cell (World.block_lt_of_cell? w2 _ (hcell2 4 _ rfl))).trans (hcell2 4 _ rfl)
            have hcc2 := hcell 4 _ rfl
            injection e2 with e2
            injection e2 with e3 e4
            rw [e3, e4, hcc] at hcc2
            injection hcc2 with hcc2
            injection hcc2 with ha hb2 hc2
            subst ha
            subst hc2
            exact does_play h (by omega) k _ _ hat2)
          simp only [ActA.cs] at HDO
          have HSN := Lib.hid (plays_snoc (PS.begun iss irs) hk)
          obtain ⟨bl, hbl⟩ : ∃ bl, k.b.length = bl := ⟨_, rfl⟩
          rw [hbl] at q4 HDO
          clear hcell hat hk hbl
          go_upto_region 7 with fail
          refine name_world (fun W => PlayAt w2 g ((PS.begun iss irs).plays (l.take m)) m W ∧ BK W wr.heap.size 46 [.int .i64 k.op, .int .i64 k.side, .int .i64 k.at_, .int .i64 k.n, .slice A' bl c', .bool k.stay]) ⟨hinv.out.ext (ext_alloc _ _), BK.new _ _ _⟩ ?_
          rintro w4 ⟨hp4, hk4⟩
          have y0 : w4.cell? ⟨wr.heap.size, 0, none⟩ = some (.int .i64 k.op) := hk4.cell rfl
          have y1 : w4.cell? ⟨wr.heap.size, 1, none⟩ = some (.int .i64 k.side) := hk4.cell rfl
          have y2 : w4.cell? ⟨wr.heap.size, 2, none⟩ = some (.int .i64 k.at_) := hk4.cell rfl
          have y3 : w4.cell? ⟨wr.heap.size, 3, none⟩ = some (.int .i64 k.n) := hk4.cell rfl
          have y4 : w4.cell? ⟨wr.heap.size, 4, none⟩ = some (.slice A' bl c') := hk4.cell rfl
          have y5 : w4.cell? ⟨wr.heap.size, 5, none⟩ = some (.bool k.stay) := hk4.cell rfl
          have HP4 := Lib.hid hp4
          clear hp4 hk4 q0 q1 q2 q3 q4 q5 hinv
          go_wp2_with fail
          refine (HDO.out _ HP4.out).mono ?_
          rintro e w5 ⟨rfl, hp5⟩
          have HP5 : Hid (PlayAt w2 g ((PS.begun iss irs).plays (l.take (m + 1))) (m + 1) w5) := Lib.hid (by rw [HSN.out]; exact hp5)
          clear hp5 HP4 HDO y0 y1 y2 y3 y4 y5
          go_wp2_with fail
          go_roundg (gk - 1)
          case measure => omega
          case rel => exact ⟨m + 1, by first | rfl | (congr 1), by omega, HP5⟩
        · obtain rfl : m = N := by omega
          clear hm hmg HN HRL2
          obtain ⟨kf, c0, c1, hov⟩ := ov_play hinv.out hN4
          obtain ⟨pa, hpa⟩ : ∃ pa, ptr (kf 0) = pa := ⟨_, rfl⟩
          obtain ⟨pb, hpb⟩ : ∃ pb, ptr (kf 1) = pb := ⟨_, rfl⟩
          have hix := fun (W : World) (m : Nat) (hm : m < 2) => run_index2 W m hm (kf 0) (kf 1)
          rw [hpa, hpb] at hix
          rw [hpa] at c0
          rw [hpb] at c1
          have HIX := Lib.hid hix
          have HOV := Lib.hid hov
          clear hix hinv hov hpa hpb
          go_wp2_with fail
          go_loopg [43] 2 (fun gk v wr => ∃ m : Nat, v = .int .i64 (m : Int) ∧ m + gk = 2 ∧ Hid (OvI w2 g kf (150 * m) (fun _ => True) wr))
          case atStart => exact ⟨0, rfl, by omega, HOV⟩
          case round =>
            obtain ⟨i, rfl, hig, hinv⟩ := hrel
            clear c0 c1
            by_cases hi2 : i < 2
            · have hii : (i : Int) < 2 := by omega
              have hwi : IntKind.i64.wrap ((i : Int) + 1) = ((i + 1 : Nat) : Int) := by rw [IntWalk.i64_in _ (by omega)]; omega
              obtain ⟨pm, hpm⟩ : ∃ pm, ptr (kf i) = pm := ⟨_, rfl⟩
              have hi3 := fun W : World => HIX.out W i hi2
              have e3 : ptr (if i = 0 then kf 0 else kf 1) = pm := by
                rw [← hpm]
                rcases two_cases hi2 with rfl | rfl <;> rfl
              rw [e3] at hi3
              have HEN := Lib.hid (fun (W : World) (n : Nat) (Q : PS → Prop) (h : OvI w2 g kf n Q W) => ov_end h hi2 fun _ h => h)
              have HTI := Lib.hid (fun (W : World) (n st : Nat) (h : OvI w2 g kf n (StQ i st) W) => ov_tick h hi2)
              have HCL := Lib.hid (fun (W : World) (n st : Nat) (h : OvI w2 g kf n (StQ i st) W) => ov_close h hi2)
              have HAB := Lib.hid (fun (W : World) (n st : Nat) (h : OvI w2 g kf n (StQ i st) W) => ov_abort h hi2)
              have HTA := Lib.hid (fun (W : World) (n st : Nat) (h : OvI w2 g kf n (StQ i st) W) => ov_take h hi2)
              have HWR := Lib.hid (fun (W : World) (n st : Nat) (h : OvI w2 g kf n (StQ i st) W) => ov_write h hi2)
              have HRE := Lib.hid (fun (W : World) (n st : Nat) (h : OvI w2 g kf n (StQ i st) W) => ov_read h hi2)
              have HRO := Lib.hid (fun (W : World) (n st : Nat) (h : OvI w2 g kf n (StQ i st) W) => ov_room h hi2)
              rw [hpm] at HEN HTI HCL HAB HTA HWR HRE HRO
              clear e3 hpm
              go_wp2_with fail
              refine (HEN.out _ _ _ hinv.out).mono ?_
              rintro e w5 ⟨st, ⟨eb, ec, ed, ex, ef, eg, rfl⟩, hst5, h5⟩
              have HO5 : Hid (OvI w2 g kf (150 * i) (StQ i st) w5) := Lib.hid (h5.more (Nat.le_refl _) fun _ h => h.2)
              have hf0 := fun W : World => end_f0 (st : Int) eb ec ed ex ef eg W
              clear h5 hinv hi3
              by_cases h45 : st = 4 ∨ st = 5
              · have HST := Lib.hid h45
                have hin0 : Hid (OvI w2 g kf (150 * i + 0) (StQ i st) w5) := HO5
                have HGO : Hid (M ≤ 150) := Lib.hid hM1
                rcases h45 with h4 | h5
                · have i4 : ((st : Int) != 4) = false := by rw [show (st : Int) = 4 by omega]; rfl
                  clear h4
                  obtain ⟨gk2, hgk2⟩ : ∃ x, gk = x := ⟨_, rfl⟩
                  go_wp2_with fail
                  clear hf0
                  go_loopg [57] M (fun gk v wr => ∃ q : Nat, v = .int .i64 (q : Int) ∧ q + gk = M ∧ Hid (OvI w2 g kf (150 * i + q) (StQ i st) wr))
                  case atStart => exact ⟨0, rfl, by omega, hin0⟩
                  case round =>
                    obtain ⟨q, rfl, hqg, hinv⟩ := hrel
                    by_cases hq : q < M
                    · have hqi : (q : Int) < (M : Int) := by omega
                      have hwq : IntKind.i64.wrap ((q : Int) + 1) = ((q + 1 : Nat) : Int) := by rw [IntWalk.i64_in _ (by omega)]; omega
                      have hn3 : 150 * i + q ≤ 300 := by omega
                      obtain ⟨k, hk⟩ : ∃ k, more[q]? = some k := ⟨_, List.getElem?_eq_getElem (by rw [HM.out]; exact hq)⟩
                      obtain ⟨b, o, A', c', B', d', rfl, hcell, hat⟩ := HRD2.out q k hk
                      obtain ⟨bl, hbl⟩ : ∃ bl, k.b.length = bl := ⟨_, rfl⟩
                      obtain ⟨n, hn⟩ : ∃ n, k.p.data.length = n := ⟨_, rfl⟩
                      have hce : ∀ (j : Nat) (v : Value), (k.cs A' c' B' d')[j]? = some v → wr.cell? ⟨b, o + q * 15 + j, none⟩ = some v := fun j v hj => (hinv.out.below.cell (World.block_lt_of_cell? w2 _ (hcell j v hj))).trans (hcell j v hj)
                      have hpd : Hid (k.p.data.length = n ∧ n ≤ d' ∧ TS.PkIn k.p ∧ RB w2 B' k.p.data) := Lib.hid ⟨hn, hn ▸ hat.dc, ⟨hat.pin.1, hat.pin.2⟩, hat.rd⟩
                      simp only [DoA.cs, hbl, hn] at hce
                      have q0 : wr.cell? ⟨b, o + q * 15, none⟩ = some (.int .i64 k.op) := hce 0 _ rfl
                      have q1 : wr.cell? ⟨b, o + q * 15 + 1, none⟩ = some (.int .i64 k.n) := hce 1 _ rfl
                      have q2 : wr.cell? ⟨b, o + q * 15 + 2, none⟩ = some (.slice A' bl c') := hce 2 _ rfl
                      have q3 : wr.cell? ⟨b, o + q * 15 + 3, none⟩ = some (.int .i64 k.p.src) := hce 3 _ rfl
                      have q4 : wr.cell? ⟨b, o + q * 15 + 4, none⟩ = some (.int .i64 k.p.dst) := hce 4 _ rfl
                      have q5 : wr.cell? ⟨b, o + q * 15 + 5, none⟩ = some (.int .i64 k.p.sp) := hce 5 _ rfl
                      have q6 : wr.cell? ⟨b, o + q * 15 + 6, none⟩ = some (.int .i64 k.p.dp) := hce 6 _ rfl
                      have q7 : wr.cell? ⟨b, o + q * 15 + 7, none⟩ = some (.int .u32 (k.p.seq : Int)) := hce 7 _ rfl
                      have q8 : wr.cell? ⟨b, o + q * 15 + 8, none⟩ = some (.int .u32 (k.p.ack : Int)) := hce 8 _ rfl
                      have q9 : wr.cell? ⟨b, o + q * 15 + 9, none⟩ = some (.int .i64 k.p.fl) := hce 9 _ rfl
                      have q10 : wr.cell? ⟨b, o + q * 15 + 10, none⟩ = some (.int .i64 k.p.wn) := hce 10 _ rfl
                      have q11 : wr.cell? ⟨b, o + q * 15 + 11, none⟩ = some (.int .i64 k.p.pr) := hce 11 _ rfl
                      have q12 : wr.cell? ⟨b, o + q * 15 + 12, none⟩ = some (.int .i64 k.p.og) := hce 12 _ rfl
                      have q13 : wr.cell? ⟨b, o + q * 15 + 13, none⟩ = some (.slice B' n d') := hce 13 _ rfl
                      have q14 : wr.cell? ⟨b, o + q * 15 + 14, none⟩ = some (.bool k.near) := hce 14 _ rfl
                      obtain ⟨U, hU⟩ : ∃ U, u64N k.op = U := ⟨_, rfl⟩
                      have hU64 : U < 18446744073709551616 := by rw [← hU]; unfold u64N; omega
                      have hwU : IntKind.u64.wrap k.op = (U : Int) := by rw [u64_wrap, hU]
                      obtain ⟨z, hz⟩ : ∃ z, U % 9 = z := ⟨_, rfl⟩
                      have hz9 : z < 9 := by omega
                      have hmz : (U : Int).tmod 9 = (z : Int) := by rw [← hz]; exact (Int.ofNat_tmod U 9).symm
                      have hwz : IntKind.i64.wrap (z : Int) = (z : Int) := IntWalk.i64_in _ (by omega)
                      have hop0 := hat.op0
                      have hop1 := hat.op1
                      clear hcell hat hk hbl hn hU hz hce
                      go_upto_region 17 with fail
                      refine name_world (fun W => OvI w2 g kf (150 * i + q) (StQ i st) W ∧ BK W wr.heap.size 61 [.int .i64 k.op, .int .i64 k.n, .slice A' bl c', .int .i64 k.p.src, .int .i64 k.p.dst, .int .i64 k.p.sp, .int .i64 k.p.dp, .int .u32 (k.p.seq : Int), .int .u32 (k.p.ack : Int), .int .i64 k.p.fl, .int .i64 k.p.wn, .int .i64 k.p.pr, .int .i64 k.p.og, .slice B' n d', .bool k.near]) ⟨hinv.out.ext (ext_alloc _ _), BK.new _ _ _⟩ ?_
                      rintro w6 ⟨hp6, hk6⟩
                      obtain ⟨gx, hgx⟩ : ∃ gx, wr.heap.size = gx := ⟨_, rfl⟩
                      rw [hgx] at hk6 ⊢
                      have y0 : w6.cell? ⟨gx, 0, none⟩ = some (.int .i64 k.op) := hk6.cell rfl
                      have y1 : w6.cell? ⟨gx, 1, none⟩ = some (.int .i64 k.n) := hk6.cell rfl
                      have y2 : w6.cell? ⟨gx, 2, none⟩ = some (.slice A' bl c') := hk6.cell rfl
                      have y3 : w6.cell? ⟨gx, 3, none⟩ = some (.int .i64 k.p.src) := hk6.cell rfl
                      have y4 : w6.cell? ⟨gx, 4, none⟩ = some (.int .i64 k.p.dst) := hk6.cell rfl
                      have y5 : w6.cell? ⟨gx, 5, none⟩ = some (.int .i64 k.p.sp) := hk6.cell rfl
                      have y6 : w6.cell? ⟨gx, 6, none⟩ = some (.int .i64 k.p.dp) := hk6.cell rfl
                      have y7 : w6.cell? ⟨gx, 7, none⟩ = some (.int .u32 (k.p.seq : Int)) := hk6.cell rfl
                      have y8 : w6.cell? ⟨gx, 8, none⟩ = some (.int .u32 (k.p.ack : Int)) := hk6.cell rfl
                      have y9 : w6.cell? ⟨gx, 9, none⟩ = some (.int .i64 k.p.fl) := hk6.cell rfl
                      have y10 : w6.cell? ⟨gx, 10, none⟩ = some (.int .i64 k.p.wn) := hk6.cell rfl
                      have y11 : w6.cell? ⟨gx, 11, none⟩ = some (.int .i64 k.p.pr) := hk6.cell rfl
                      have y12 : w6.cell? ⟨gx, 12, none⟩ = some (.int .i64 k.p.og) := hk6.cell rfl
                      have y13 : w6.cell? ⟨gx, 13, none⟩ = some (.slice B' n d') := hk6.cell rfl
                      have y14 : w6.cell? ⟨gx, 14, none⟩ = some (.bool k.near) := hk6.cell rfl
                      have HP6 := Lib.hid hp6
                      clear hp6 hk6 hgx q0 q1 q2 q3 q4 q5 q6 q7 q8 q9 q10 q11 q12 q13 q14 hinv
                      by_cases ez4 : z = 4
                      · have z4 : ((z : Int) == 4) = true := beq_iff_eq.2 (by omega)
                        go_wp2_with fail
                        refine (HTI.out _ _ _ HP6.out hn3 HST.out).mono ?_
                        rintro e w9 ⟨rfl, h9⟩
                        have H9 : Hid (OvI w2 g kf (150 * i + (q + 1)) (StQ i st) w9) := Lib.hid h9
                        clear h9 HP6 y0 y1 y2 y3 y4 y5 y6 y7 y8 y9 y10 y11 y12 y13 y14 
                        go_wp2_with fail
                        refine (HEN.out _ _ _ H9.out).mono ?_
                        rintro e wa ⟨st2, ⟨fb, fc, fd, fx, ff, fg, rfl⟩, hst6, h6⟩
                        obtain rfl : st2 = st := by
                          obtain ⟨P, V, _, _, _, hq1, hq2⟩ := h6
                          exact (show (P.c i).state = st2 from hq2).symm.trans hq1
                        have HA : Hid (OvI w2 g kf (150 * i + (q + 1)) (StQ i st2) wa) := Lib.hid (h6.more (Nat.le_refl _) fun _ h => h.2)
                        have hf1 := fun W : World => end_f0 (st2 : Int) fb fc fd fx ff fg W
                        clear h6 H9
                        go_wp2_with fail
                        refine (HRO.out _ _ _ HA.out HST.out).mono ?_
                        rintro e wb ⟨rfl, hb⟩
                        have HB9 := Lib.hid hb
                        clear hb HA hf1
                        go_wp2_with fail
                        go_roundg (gk - 1)
                        case measure => omega
                        case rel => exact ⟨q + 1, by first | rfl | (congr 1), by omega, HB9⟩
                      by_cases ez5 : z = 5
                      · have z4 : ((z : Int) == 4) = false := beq_eq_false_iff_ne.2 (by omega)
                        have z5 : ((z : Int) == 5) = true := beq_iff_eq.2 (by omega)
                        go_wp2_with fail
                        refine (HWR.out _ _ _ HP6.out HST.out A' bl c').mono ?_
                        rintro e w9 ⟨rfl, h9⟩
                        have H9 : Hid (OvI w2 g kf (150 * i + (q + 1)) (StQ i st) w9) := Lib.hid h9
                        clear h9 HP6 y0 y1 y2 y3 y4 y5 y6 y7 y8 y9 y10 y11 y12 y13 y14 
                        go_wp2_with fail
                        refine (HEN.out _ _ _ H9.out).mono ?_
                        rintro e wa ⟨st2, ⟨fb, fc, fd, fx, ff, fg, rfl⟩, hst6, h6⟩
                        obtain rfl : st2 = st := by
                          obtain ⟨P, V, _, _, _, hq1, hq2⟩ := h6
                          exact (show (P.c i).state = st2 from hq2).symm.trans hq1
                        have HA : Hid (OvI w2 g kf (150 * i + (q + 1)) (StQ i st2) wa) := Lib.hid (h6.more (Nat.le_refl _) fun _ h => h.2)
                        have hf1 := fun W : World => end_f0 (st2 : Int) fb fc fd fx ff fg W
                        clear h6 H9
                        go_wp2_with fail
                        refine (HRO.out _ _ _ HA.out HST.out).mono ?_
                        rintro e wb ⟨rfl, hb⟩
                        have HB9 := Lib.hid hb
                        clear hb HA hf1
                        go_wp2_with fail
                        go_roundg (gk - 1)
                        case measure => omega
                        case rel => exact ⟨q + 1, by first | rfl | (congr 1), by omega, HB9⟩
                      by_cases ez6 : z = 6
                      · have z4 : ((z : Int) == 4) = false := beq_eq_false_iff_ne.2 (by omega)
                        have z5 : ((z : Int) == 5) = false := beq_eq_false_iff_ne.2 (by omega)
                        have z6 : ((z : Int) == 6) = true := beq_iff_eq.2 (by omega)
                        go_wp2_with fail
                        refine (HRE.out _ _ _ HP6.out hn3 HST.out k.n).mono ?_
                        rintro e w9 ⟨⟨v9, rfl⟩, h9⟩
                        have H9 : Hid (OvI w2 g kf (150 * i + (q + 1)) (StQ i st) w9) := Lib.hid h9
                        clear h9 HP6 y0 y1 y2 y3 y4 y5 y6 y7 y8 y9 y10 y11 y12 y13 y14 
                        go_wp2_with fail
                        refine (HEN.out _ _ _ H9.out).mono ?_
                        rintro e wa ⟨st2, ⟨fb, fc, fd, fx, ff, fg, rfl⟩, hst6, h6⟩
                        obtain rfl : st2 = st := by
                          obtain ⟨P, V, _, _, _, hq1, hq2⟩ := h6
                          exact (show (P.c i).state = st2 from hq2).symm.trans hq1
                        have HA : Hid (OvI w2 g kf (150 * i + (q + 1)) (StQ i st2) wa) := Lib.hid (h6.more (Nat.le_refl _) fun _ h => h.2)
                        have hf1 := fun W : World => end_f0 (st2 : Int) fb fc fd fx ff fg W
                        clear h6 H9
                        go_wp2_with fail
                        refine (HRO.out _ _ _ HA.out HST.out).mono ?_
                        rintro e wb ⟨rfl, hb⟩
                        have HB9 := Lib.hid hb
                        clear hb HA hf1
                        go_wp2_with fail
                        go_roundg (gk - 1)
                        case measure => omega
                        case rel => exact ⟨q + 1, by first | rfl | (congr 1), by omega, HB9⟩
                      by_cases ez7 : z = 7
                      · have z4 : ((z : Int) == 4) = false := beq_eq_false_iff_ne.2 (by omega)
                        have z5 : ((z : Int) == 5) = false := beq_eq_false_iff_ne.2 (by omega)
                        have z6 : ((z : Int) == 6) = false := beq_eq_false_iff_ne.2 (by omega)
                        have z7 : ((z : Int) == 7) = true := beq_iff_eq.2 (by omega)
                        go_wp2_with fail
                        refine (HCL.out _ _ _ HP6.out hn3 HST.out).mono ?_
                        rintro e w9 ⟨rfl, h9⟩
                        have H9 : Hid (OvI w2 g kf (150 * i + (q + 1)) (StQ i st) w9) := Lib.hid h9
                        clear h9 HP6 y0 y1 y2 y3 y4 y5 y6 y7 y8 y9 y10 y11 y12 y13 y14 
                        go_wp2_with fail
                        refine (HEN.out _ _ _ H9.out).mono ?_
                        rintro e wa ⟨st2, ⟨fb, fc, fd, fx, ff, fg, rfl⟩, hst6, h6⟩
                        obtain rfl : st2 = st := by
                          obtain ⟨P, V, _, _, _, hq1, hq2⟩ := h6
                          exact (show (P.c i).state = st2 from hq2).symm.trans hq1
                        have HA : Hid (OvI w2 g kf (150 * i + (q + 1)) (StQ i st2) wa) := Lib.hid (h6.more (Nat.le_refl _) fun _ h => h.2)
                        have hf1 := fun W : World => end_f0 (st2 : Int) fb fc fd fx ff fg W
                        clear h6 H9
                        go_wp2_with fail
                        refine (HRO.out _ _ _ HA.out HST.out).mono ?_
                        rintro e wb ⟨rfl, hb⟩
                        have HB9 := Lib.hid hb
                        clear hb HA hf1
                        go_wp2_with fail
                        go_roundg (gk - 1)
                        case measure => omega
                        case rel => exact ⟨q + 1, by first | rfl | (congr 1), by omega, HB9⟩
                      by_cases ez8 : z = 8
                      · have z4 : ((z : Int) == 4) = false := beq_eq_false_iff_ne.2 (by omega)
                        have z5 : ((z : Int) == 5) = false := beq_eq_false_iff_ne.2 (by omega)
                        have z6 : ((z : Int) == 6) = false := beq_eq_false_iff_ne.2 (by omega)
                        have z7 : ((z : Int) == 7) = false := beq_eq_false_iff_ne.2 (by omega)
                        have z8 : ((z : Int) == 8) = true := beq_iff_eq.2 (by omega)
                        go_wp2_with fail
                        refine (HAB.out _ _ _ HP6.out hn3 HST.out).mono ?_
                        rintro e w9 ⟨rfl, h9⟩
                        have H9 : Hid (OvI w2 g kf (150 * i + (q + 1)) (StQ i st) w9) := Lib.hid h9
                        clear h9 HP6 y0 y1 y2 y3 y4 y5 y6 y7 y8 y9 y10 y11 y12 y13 y14 
                        go_wp2_with fail
                        refine (HEN.out _ _ _ H9.out).mono ?_
                        rintro e wa ⟨st2, ⟨fb, fc, fd, fx, ff, fg, rfl⟩, hst6, h6⟩
                        obtain rfl : st2 = st := by
                          obtain ⟨P, V, _, _, _, hq1, hq2⟩ := h6
                          exact (show (P.c i).state = st2 from hq2).symm.trans hq1
                        have HA : Hid (OvI w2 g kf (150 * i + (q + 1)) (StQ i st2) wa) := Lib.hid (h6.more (Nat.le_refl _) fun _ h => h.2)
                        have hf1 := fun W : World => end_f0 (st2 : Int) fb fc fd fx ff fg W
                        clear h6 H9
                        go_wp2_with fail
                        refine (HRO.out _ _ _ HA.out HST.out).mono ?_
                        rintro e wb ⟨rfl, hb⟩
                        have HB9 := Lib.hid hb
                        clear hb HA hf1
                        go_wp2_with fail
                        go_roundg (gk - 1)
                        case measure => omega
                        case rel => exact ⟨q + 1, by first | rfl | (congr 1), by omega, HB9⟩
                      have hzo : z < 4 ∨ 8 < z := by omega
                      have z4 : ((z : Int) == 4) = false := beq_eq_false_iff_ne.2 (by omega)
                      have z5 : ((z : Int) == 5) = false := beq_eq_false_iff_ne.2 (by omega)
                      have z6 : ((z : Int) == 6) = false := beq_eq_false_iff_ne.2 (by omega)
                      have z7 : ((z : Int) == 7) = false := beq_eq_false_iff_ne.2 (by omega)
                      have z8 : ((z : Int) == 8) = false := beq_eq_false_iff_ne.2 (by omega)
                      go_wp2_with fail
                      refine (HTA.out _ _ _ HP6.out hn3 HST.out k.p B' n d' hpd.out.1 hpd.out.2.1 hpd.out.2.2.1 hpd.out.2.2.2).mono ?_
                      rintro e w9 ⟨rfl, h9⟩
                      have H9 : Hid (OvI w2 g kf (150 * i + (q + 1)) (StQ i st) w9) := Lib.hid h9
                      clear h9 HP6 y0 y1 y2 y3 y4 y5 y6 y7 y8 y9 y10 y11 y12 y13 y14 
                      go_wp2_with fail
                      refine (HEN.out _ _ _ H9.out).mono ?_
                      rintro e wa ⟨st2, ⟨fb, fc, fd, fx, ff, fg, rfl⟩, hst6, h6⟩
                      obtain rfl : st2 = st := by
                        obtain ⟨P, V, _, _, _, hq1, hq2⟩ := h6
                        exact (show (P.c i).state = st2 from hq2).symm.trans hq1
                      have HA : Hid (OvI w2 g kf (150 * i + (q + 1)) (StQ i st2) wa) := Lib.hid (h6.more (Nat.le_refl _) fun _ h => h.2)
                      have hf1 := fun W : World => end_f0 (st2 : Int) fb fc fd fx ff fg W
                      clear h6 H9
                      go_wp2_with fail
                      refine (HRO.out _ _ _ HA.out HST.out).mono ?_
                      rintro e wb ⟨rfl, hb⟩
                      have HB9 := Lib.hid hb
                      clear hb HA hf1
                      go_wp2_with fail
                      go_roundg (gk - 1)
                      case measure => omega
                      case rel => exact ⟨q + 1, by first | rfl | (congr 1), by omega, HB9⟩
                    · obtain rfl : q = M := by omega
                      have HF : Hid (OvI w2 g kf (150 * (i + 1)) (fun _ => True) wr) := Lib.hid (hinv.out.more (by omega) fun _ _ => trivial)
                      clear hinv
                      go_wp2_with fail
                      go_roundg (gk2 - 1)
                      case measure => omega
                      case rel => exact ⟨i + 1, by first | rfl | (congr 1), by omega, HF⟩
                · have i4 : ((st : Int) != 4) = true := bne_iff_ne.2 (by omega)
                  have i5 : ((st : Int) != 5) = false := by rw [show (st : Int) = 5 by omega]; rfl
                  clear h5
                  obtain ⟨gk2, hgk2⟩ : ∃ x, gk = x := ⟨_, rfl⟩
                  go_wp2_with fail
                  clear hf0
                  go_loopg [57] M (fun gk v wr => ∃ q : Nat, v = .int .i64 (q : Int) ∧ q + gk = M ∧ Hid (OvI w2 g kf (150 * i + q) (StQ i st) wr))
                  case atStart => exact ⟨0, rfl, by omega, hin0⟩
                  case round =>
                    obtain ⟨q, rfl, hqg, hinv⟩ := hrel
                    by_cases hq : q < M
                    · have hqi : (q : Int) < (M : Int) := by omega
                      have hwq : IntKind.i64.wrap ((q : Int) + 1) = ((q + 1 : Nat) : Int) := by rw [IntWalk.i64_in _ (by omega)]; omega
                      have hn3 : 150 * i + q ≤ 300 := by omega
                      obtain ⟨k, hk⟩ : ∃ k, more[q]? = some k := ⟨_, List.getElem?_eq_getElem (by rw [HM.out]; exact hq)⟩
                      obtain ⟨b, o, A', c', B', d', rfl, hcell, hat⟩ := HRD2.out q k hk
                      obtain ⟨bl, hbl⟩ : ∃ bl, k.b.length = bl := ⟨_, rfl⟩
                      obtain ⟨n, hn⟩ : ∃ n, k.p.data.length = n := ⟨_, rfl⟩
                      have hce : ∀ (j : Nat) (v : Value), (k.cs A' c' B' d')[j]? = some v → wr.cell? ⟨b, o + q * 15 + j, none⟩ = some v := fun j v hj => (hinv.out.below.cell (World.block_lt_of_cell? w2 _ (hcell j v hj))).trans (hcell j v hj)
                      have hpd : Hid (k.p.data.length = n ∧ n ≤ d' ∧ TS.PkIn k.p ∧ RB w2 B' k.p.data) := Lib.hid ⟨hn, hn ▸ hat.dc, ⟨hat.pin.1, hat.pin.2⟩, hat.rd⟩
                      simp only [DoA.cs, hbl, hn] at hce
                      have q0 : wr.cell? ⟨b, o + q * 15, none⟩ = some (.int .i64 k.op) := hce 0 _ rfl
                      have q1 : wr.cell? ⟨b, o + q * 15 + 1, none⟩ = some (.int .i64 k.n) := hce 1 _ rfl
                      have q2 : wr.cell? ⟨b, o + q * 15 + 2, none⟩ = some (.slice A' bl c') := hce 2 _ rfl
                      have q3 : wr.cell? ⟨b, o + q * 15 + 3, none⟩ = some (.int .i64 k.p.src) := hce 3 _ rfl
                      have q4 : wr.cell? ⟨b, o + q * 15 + 4, none⟩ = some (.int .i64 k.p.dst) := hce 4 _ rfl
                      have q5 : wr.cell? ⟨b, o + q * 15 + 5, none⟩ = some (.int .i64 k.p.sp) := hce 5 _ rfl
                      have q6 : wr.cell? ⟨b, o + q * 15 + 6, none⟩ = some (.int .i64 k.p.dp) := hce 6 _ rfl
                      have q7 : wr.cell? ⟨b, o + q * 15 + 7, none⟩ = some (.int .u32 (k.p.seq : Int)) := hce 7 _ rfl
                      have q8 : wr.cell? ⟨b, o + q * 15 + 8, none⟩ = some (.int .u32 (k.p.ack : Int)) := hce 8 _ rfl
                      have q9 : wr.cell? ⟨b, o + q * 15 + 9, none⟩ = some (.int .i64 k.p.fl) := hce 9 _ rfl
                      have q10 : wr.cell? ⟨b, o + q * 15 + 10, none⟩ = some (.int .i64 k.p.wn) := hce 10 _ rfl
                      have q11 : wr.cell? ⟨b, o + q * 15 + 11, none⟩ = some (.int .i64 k.p.pr) := hce 11 _ rfl
                      have q12 : wr.cell? ⟨b, o + q * 15 + 12, none⟩ = some (.int .i64 k.p.og) := hce 12 _ rfl
                      have q13 : wr.cell? ⟨b, o + q * 15 + 13, none⟩ = some (.slice B' n d') := hce 13 _ rfl
                      have q14 : wr.cell? ⟨b, o + q * 15 + 14, none⟩ = some (.bool k.near) := hce 14 _ rfl
                      obtain ⟨U, hU⟩ : ∃ U, u64N k.op = U := ⟨_, rfl⟩
                      have hU64 : U < 18446744073709551616 := by rw [← hU]; unfold u64N; omega
                      have hwU : IntKind.u64.wrap k.op = (U : Int) := by rw [u64_wrap, hU]
                      obtain ⟨z, hz⟩ : ∃ z, U % 9 = z := ⟨_, rfl⟩
                      have hz9 : z < 9 := by omega
                      have hmz : (U : Int).tmod 9 = (z : Int) := by rw [← hz]; exact (Int.ofNat_tmod U 9).symm
                      have hwz : IntKind.i64.wrap (z : Int) = (z : Int) := IntWalk.i64_in _ (by omega)
                      have hop0 := hat.op0
                      have hop1 := hat.op1
                      clear hcell hat hk hbl hn hU hz hce
                      go_upto_region 17 with fail
                      refine name_world (fun W => OvI w2 g kf (150 * i + q) (StQ i st) W ∧ BK W wr.heap.size 61 [.int .i64 k.op, .int .i64 k.n, .slice A' bl c', .int .i64 k.p.src, .int .i64 k.p.dst, .int .i64 k.p.sp, .int .i64 k.p.dp, .int .u32 (k.p.seq : Int), .int .u32 (k.p.ack : Int), .int .i64 k.p.fl, .int .i64 k.p.wn, .int .i64 k.p.pr, .int .i64 k.p.og, .slice B' n d', .bool k.near]) ⟨hinv.out.ext (ext_alloc _ _), BK.new _ _ _⟩ ?_
                      rintro w6 ⟨hp6, hk6⟩
                      obtain ⟨gx, hgx⟩ : ∃ gx, wr.heap.size = gx := ⟨_, rfl⟩
                      rw [hgx] at hk6 ⊢
                      have y0 : w6.cell? ⟨gx, 0, none⟩ = some (.int .i64 k.op) := hk6.cell rfl
                      have y1 : w6.cell? ⟨gx, 1, none⟩ = some (.int .i64 k.n) := hk6.cell rfl
                      have y2 : w6.cell? ⟨gx, 2, none⟩ = some (.slice A' bl c') := hk6.cell rfl
                      have y3 : w6.cell? ⟨gx, 3, none⟩ = some (.int .i64 k.p.src) := hk6.cell rfl
                      have y4 : w6.cell? ⟨gx, 4, none⟩ = some (.int .i64 k.p.dst) := hk6.cell rfl
                      have y5 : w6.cell? ⟨gx, 5, none⟩ = some (.int .i64 k.p.sp) := hk6.cell rfl
                      have y6 : w6.cell? ⟨gx, 6, none⟩ = some (.int .i64 k.p.dp) := hk6.cell rfl
                      have y7 : w6.cell? ⟨gx, 7, none⟩ = some (.int .u32 (k.p.seq : Int)) := hk6.cell rfl
                      have y8 : w6.cell? ⟨gx, 8, none⟩ = some (.int .u32 (k.p.ack : Int)) := hk6.cell rfl
                      have y9 : w6.cell? ⟨gx, 9, none⟩ = some (.int .i64 k.p.fl) := hk6.cell rfl
                      have y10 : w6.cell? ⟨gx, 10, none⟩ = some (.int .i64 k.p.wn) := hk6.cell rfl
                      have y11 : w6.cell? ⟨gx, 11, none⟩ = some (.int .i64 k.p.pr) := hk6.cell rfl
                      have y12 : w6.cell? ⟨gx, 12, none⟩ = some (.int .i64 k.p.og) := hk6.cell rfl
                      have y13 : w6.cell? ⟨gx, 13, none⟩ = some (.slice B' n d') := hk6.cell rfl
                      have y14 : w6.cell? ⟨gx, 14, none⟩ = some (.bool k.near) := hk6.cell rfl
                      have HP6 := Lib.hid hp6
                      clear hp6 hk6 hgx q0 q1 q2 q3 q4 q5 q6 q7 q8 q9 q10 q11 q12 q13 q14 hinv
                      by_cases ez4 : z = 4
                      · have z4 : ((z : Int) == 4) = true := beq_iff_eq.2 (by omega)
                        go_wp2_with fail
                        refine (HTI.out _ _ _ HP6.out hn3 HST.out).mono ?_
                        rintro e w9 ⟨rfl, h9⟩
                        have H9 : Hid (OvI w2 g kf (150 * i + (q + 1)) (StQ i st) w9) := Lib.hid h9
                        clear h9 HP6 y0 y1 y2 y3 y4 y5 y6 y7 y8 y9 y10 y11 y12 y13 y14 
                        go_wp2_with fail
                        refine (HEN.out _ _ _ H9.out).mono ?_
                        rintro e wa ⟨st2, ⟨fb, fc, fd, fx, ff, fg, rfl⟩, hst6, h6⟩
                        obtain rfl : st2 = st := by
                          obtain ⟨P, V, _, _, _, hq1, hq2⟩ := h6
                          exact (show (P.c i).state = st2 from hq2).symm.trans hq1
                        have HA : Hid (OvI w2 g kf (150 * i + (q + 1)) (StQ i st2) wa) := Lib.hid (h6.more (Nat.le_refl _) fun _ h => h.2)
                        have hf1 := fun W : World => end_f0 (st2 : Int) fb fc fd fx ff fg W
                        clear h6 H9
                        go_wp2_with fail
                        refine (HRO.out _ _ _ HA.out HST.out).mono ?_
                        rintro e wb ⟨rfl, hb⟩
                        have HB9 := Lib.hid hb
                        clear hb HA hf1
                        go_wp2_with fail
                        go_roundg (gk - 1)
                        case measure => omega
                        case rel => exact ⟨q + 1, by first | rfl | (congr 1), by omega, HB9⟩
                      by_cases ez5 : z = 5
                      · have z4 : ((z : Int) == 4) = false := beq_eq_false_iff_ne.2 (by omega)
                        have z5 : ((z : Int) == 5) = true := beq_iff_eq.2 (by omega)
                        go_wp2_with fail
                        refine (HWR.out _ _ _ HP6.out HST.out A' bl c').mono ?_
                        rintro e w9 ⟨rfl, h9⟩
                        have H9 : Hid (OvI w2 g kf (150 * i + (q + 1)) (StQ i st) w9) := Lib.hid h9
                        clear h9 HP6 y0 y1 y2 y3 y4 y5 y6 y7 y8 y9 y10 y11 y12 y13 y14 
                        go_wp2_with fail
                        refine (HEN.out _ _ _ H9.out).mono ?_
                        rintro e wa ⟨st2, ⟨fb, fc, fd, fx, ff, fg, rfl⟩, hst6, h6⟩
                        obtain rfl : st2 = st := by
                          obtain ⟨P, V, _, _, _, hq1, hq2⟩ := h6
                          exact (show (P.c i).state = st2 from hq2).symm.trans hq1
                        have HA : Hid (OvI w2 g kf (150 * i + (q + 1)) (StQ i st2) wa) := Lib.hid (h6.more (Nat.le_refl _) fun _ h => h.2)
                        have hf1 := fun W : World => end_f0 (st2 : Int) fb fc fd fx ff fg W
                        clear h6 H9
                        go_wp2_with fail
                        refine (HRO.out _ _ _ HA.out HST.out).mono ?_
                        rintro e wb ⟨rfl, hb⟩
                        have HB9 := Lib.hid hb
                        clear hb HA hf1
                        go_wp2_with fail
                        go_roundg (gk - 1)
                        case measure => omega
                        case rel => exact ⟨q + 1, by first | rfl | (congr 1), by omega, HB9⟩
                      by_cases ez6 : z = 6
                      · have z4 : ((z : Int) == 4) = false := beq_eq_false_iff_ne.2 (by omega)
                        have z5 : ((z : Int) == 5) = false := beq_eq_false_iff_ne.2 (by omega)
                        have z6 : ((z : Int) == 6) = true := beq_iff_eq.2 (by omega)
                        go_wp2_with fail
                        refine (HRE.out _ _ _ HP6.out hn3 HST.out k.n).mono ?_
                        rintro e w9 ⟨⟨v9, rfl⟩, h9⟩
                        have H9 : Hid (OvI w2 g kf (150 * i + (q + 1)) (StQ i st) w9) := Lib.hid h9
                        clear h9 HP6 y0 y1 y2 y3 y4 y5 y6 y7 y8 y9 y10 y11 y12 y13 y14 
                        go_wp2_with fail
                        refine (HEN.out _ _ _ H9.out).mono ?_
                        rintro e wa ⟨st2, ⟨fb, fc, fd, fx, ff, fg, rfl⟩, hst6, h6⟩
                        obtain rfl : st2 = st := by
                          obtain ⟨P, V, _, _, _, hq1, hq2⟩ := h6
                          exact (show (P.c i).state = st2 from hq2).symm.trans hq1
                        have HA : Hid (OvI w2 g kf (150 * i + (q + 1)) (StQ i st2) wa) := Lib.hid (h6.more (Nat.le_refl _) fun _ h => h.2)
                        have hf1 := fun W : World => end_f0 (st2 : Int) fb fc fd fx ff fg W
                        clear h6 H9
                        go_wp2_with fail
                        refine (HRO.out _ _ _ HA.out HST.out).mono ?_
                        rintro e wb ⟨rfl, hb⟩
                        have HB9 := Lib.hid hb
                        clear hb HA hf1
                        go_wp2_with fail
                        go_roundg (gk - 1)
                        case measure => omega
                        case rel => exact ⟨q + 1, by first | rfl | (congr 1), by omega, HB9⟩
                      by_cases ez7 : z = 7
                      · have z4 : ((z : Int) == 4) = false := beq_eq_false_iff_ne.2 (by omega)
                        have z5 : ((z : Int) == 5) = false := beq_eq_false_iff_ne.2 (by omega)
                        have z6 : ((z : Int) == 6) = false := beq_eq_false_iff_ne.2 (by omega)
                        have z7 : ((z : Int) == 7) = true := beq_iff_eq.2 (by omega)
                        go_wp2_with fail
                        refine (HCL.out _ _ _ HP6.out hn3 HST.out).mono ?_
                        rintro e w9 ⟨rfl, h9⟩
                        have H9 : Hid (OvI w2 g kf (150 * i + (q + 1)) (StQ i st) w9) := Lib.hid h9
                        clear h9 HP6 y0 y1 y2 y3 y4 y5 y6 y7 y8 y9 y10 y11 y12 y13 y14 
                        go_wp2_with fail
                        refine (HEN.out _ _ _ H9.out).mono ?_
                        rintro e wa ⟨st2, ⟨fb, fc, fd, fx, ff, fg, rfl⟩, hst6, h6⟩
                        obtain rfl : st2 = st := by
                          obtain ⟨P, V, _, _, _, hq1, hq2⟩ := h6
                          exact (show (P.c i).state = st2 from hq2).symm.trans hq1
                        have HA : Hid (OvI w2 g kf (150 * i + (q + 1)) (StQ i st2) wa) := Lib.hid (h6.more (Nat.le_refl _) fun _ h => h.2)
                        have hf1 := fun W : World => end_f0 (st2 : Int) fb fc fd fx ff fg W
                        clear h6 H9
                        go_wp2_with fail
                        refine (HRO.out _ _ _ HA.out HST.out).mono ?_
                        rintro e wb ⟨rfl, hb⟩
                        have HB9 := Lib.hid hb
                        clear hb HA hf1
                        go_wp2_with fail
                        go_roundg (gk - 1)
                        case measure => omega
                        case rel => exact ⟨q + 1, by first | rfl | (congr 1), by omega, HB9⟩
                      by_cases ez8 : z = 8
                      · have z4 : ((z : Int) == 4) = false := beq_eq_false_iff_ne.2 (by omega)
                        have z5 : ((z : Int) == 5) = false := beq_eq_false_iff_ne.2 (by omega)
                        have z6 : ((z : Int) == 6) = false := beq_eq_false_iff_ne.2 (by omega)
                        have z7 : ((z : Int) == 7) = false := beq_eq_false_iff_ne.2 (by omega)
                        have z8 : ((z : Int) == 8) = true := beq_iff_eq.2 (by omega)
                        go_wp2_with fail
                        refine (HAB.out _ _ _ HP6.out hn3 HST.out).mono ?_
                        rintro e w9 ⟨rfl, h9⟩
                        have H9 : Hid (OvI w2 g kf (150 * i + (q + 1)) (StQ i st) w9) := Lib.hid h9
                        clear h9 HP6 y0 y1 y2 y3 y4 y5 y6 y7 y8 y9 y10 y11 y12 y13 y14 
                        go_wp2_with fail
                        refine (HEN.out _ _ _ H9.out).mono ?_
                        rintro e wa ⟨st2, ⟨fb, fc, fd, fx, ff, fg, rfl⟩, hst6, h6⟩
                        obtain rfl : st2 = st := by
                          obtain ⟨P, V, _, _, _, hq1, hq2⟩ := h6
                          exact (show (P.c i).state = st2 from hq2).symm.trans hq1
                        have HA : Hid (OvI w2 g kf (150 * i + (q + 1)) (StQ i st2) wa) := Lib.hid (h6.more (Nat.le_refl _) fun _ h => h.2)
                        have hf1 := fun W : World => end_f0 (st2 : Int) fb fc fd fx ff fg W
                        clear h6 H9
                        go_wp2_with fail
                        refine (HRO.out _ _ _ HA.out HST.out).mono ?_
                        rintro e wb ⟨rfl, hb⟩
                        have HB9 := Lib.hid hb
                        clear hb HA hf1
                        go_wp2_with fail
                        go_roundg (gk - 1)
                        case measure => omega
                        case rel => exact ⟨q + 1, by first | rfl | (congr 1), by omega, HB9⟩
                      have hzo : z < 4 ∨ 8 < z := by omega
                      have z4 : ((z : Int) == 4) = false := beq_eq_false_iff_ne.2 (by omega)
                      have z5 : ((z : Int) == 5) = false := beq_eq_false_iff_ne.2 (by omega)
                      have z6 : ((z : Int) == 6) = false := beq_eq_false_iff_ne.2 (by omega)
                      have z7 : ((z : Int) == 7) = false := beq_eq_false_iff_ne.2 (by omega)
                      have z8 : ((z : Int) == 8) = false := beq_eq_false_iff_ne.2 (by omega)
                      go_wp2_with fail
                      refine (HTA.out _ _ _ HP6.out hn3 HST.out k.p B' n d' hpd.out.1 hpd.out.2.1 hpd.out.2.2.1 hpd.out.2.2.2).mono ?_
                      rintro e w9 ⟨rfl, h9⟩
                      have H9 : Hid (OvI w2 g kf (150 * i + (q + 1)) (StQ i st) w9) := Lib.hid h9
                      clear h9 HP6 y0 y1 y2 y3 y4 y5 y6 y7 y8 y9 y10 y11 y12 y13 y14 
                      go_wp2_with fail
                      refine (HEN.out _ _ _ H9.out).mono ?_
                      rintro e wa ⟨st2, ⟨fb, fc, fd, fx, ff, fg, rfl⟩, hst6, h6⟩
                      obtain rfl : st2 = st := by
                        obtain ⟨P, V, _, _, _, hq1, hq2⟩ := h6
                        exact (show (P.c i).state = st2 from hq2).symm.trans hq1
                      have HA : Hid (OvI w2 g kf (150 * i + (q + 1)) (StQ i st2) wa) := Lib.hid (h6.more (Nat.le_refl _) fun _ h => h.2)
                      have hf1 := fun W : World => end_f0 (st2 : Int) fb fc fd fx ff fg W
                      clear h6 H9
                      go_wp2_with fail
                      refine (HRO.out _ _ _ HA.out HST.out).mono ?_
                      rintro e wb ⟨rfl, hb⟩
                      have HB9 := Lib.hid hb
                      clear hb HA hf1
                      go_wp2_with fail
                      go_roundg (gk - 1)
                      case measure => omega
                      case rel => exact ⟨q + 1, by first | rfl | (congr 1), by omega, HB9⟩
                    · obtain rfl : q = M := by omega
                      have HF : Hid (OvI w2 g kf (150 * (i + 1)) (fun _ => True) wr) := Lib.hid (hinv.out.more (by omega) fun _ _ => trivial)
                      clear hinv
                      go_wp2_with fail
                      go_roundg (gk2 - 1)
                      case measure => omega
                      case rel => exact ⟨i + 1, by first | rfl | (congr 1), by omega, HF⟩
              · have i4 : ((st : Int) != 4) = true := bne_iff_ne.2 (by omega)
                have i5 : ((st : Int) != 5) = true := bne_iff_ne.2 (by omega)
                have HF : Hid (OvI w2 g kf (150 * (i + 1)) (fun _ => True) w5) := Lib.hid (HO5.out.more (by omega) fun _ _ => trivial)
                go_wp2_with fail
                go_roundg (gk - 1)
                case measure => omega
                case rel => exact ⟨i + 1, by first | rfl | (congr 1), by omega, HF⟩
            · obtain rfl : i = 2 := by omega
              go_wp2_with fail
              refine (HAW.out _).mono ?_
              rintro e w6 ⟨rfl, hb⟩
              have HF := Lib.hid (HB2.out.trans ((hinv.out.ext hb).below.mono HB2.out.size))
              clear hb
              go_wp2_with fail
              go_ret
              exact ⟨rfl, HF.out⟩
theorem over_law (w : World) (iss : Nat) (hi : iss ≤ 4294967295) (irs : Nat) (hr : irs ≤ 4294967295) (A : Option Addr) (c : Nat) (l : List ActA) (hl : RActs w A l) (hc : l.length ≤ c) (hm : c ≤ maxLen)
    (B : Option Addr) (d : Nat) (more : List DoA) (hd : RDos w B more) (hmc : more.length ≤ d) (hmm : d ≤ maxLen) :
    Calls Try.prog 7 #[.int .u32 (iss : Int), .int .u32 (irs : Int), .slice A l.length c, .slice B more.length d] w fun e w' => e = .returned (.bool true) ∧ Below w.heap.size w w' :=
  over_walk w iss irs (by omega) (by omega) A c l hl hc hm B d more hd hmc hmm
end Go.Proofs.Ytjhnnnklfhbebaa
