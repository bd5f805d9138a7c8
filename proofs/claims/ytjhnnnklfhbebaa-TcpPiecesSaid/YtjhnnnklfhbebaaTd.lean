/- tcp: Close, Room, Out: the walks. A rule for a region that draws its order, by facts: operation T may write into any new block (the facts of M hold only ahead of it), the last one into any; I0: what every step before the last keeps; FL: what stands behind the last. tcp: End: the walk. tcp: Write: the walk (printed by gen.py). tcp: Read: the walk. -/
import Derived.Test.YtjhnnnklfhbebaaTc
import Derived.Test.YtjhnnnklfhbebaaTa
namespace Go.Proofs.Ytjhnnnklfhbebaa
open Go.RowKit
set_option linter.unusedVariables false
set_option linter.unusedSimpArgs false
namespace TS
theorem closed_of (s : TS) : s.closed = true ↔ s.state = 0 ∨ s.shut = true ∨ s.state = 5 ∨ s.state = 4 := by
  unfold TS.closed TS.dead
  simp only [Bool.or_eq_true, decide_eq_true_eq]
  exact ⟨fun h => h.elim (fun e => .inr (.inl e)) (fun e => by rcases e with e | e | e; exact .inl e; exact .inr (.inr (.inr e)); exact .inr (.inr (.inl e))), fun h => by
    rcases h with e | e | e | e
    · exact .inr (.inl e)
    · exact .inl e
    · exact .inr (.inr (.inr e))
    · exact .inr (.inr (.inl e))⟩
end TS
section
variable {N : Nat → Prop} {w : World} {k : Nat} {s : TS} {vp : Value}
set_option maxRecDepth 100000 in
theorem close_calls (h : ConnIs N w k s vp) (hN : ∀ b, N b → b < w.heap.size) (hb : s.Ok) (hp : s.pack.length ≤ 700000) :
    Calls Try.prog 29 #[.pointer (some ⟨k, 0, none⟩)] w (Did N w k vp s.close (.tuple #[])) := by
  have HM := Lib.hid (made_calls w k s vp h)
  have c2069 := h.cellT 4 (fun _ _ => rfl) 2069 rfl
  have c11 := h.cellH 11 (by decide) (fun _ _ => rfl)
  have f11 := h.frozen 11
  have H := Lib.hid h
  have h1 := h.setH { s with shut := true } 11 (by decide) (.bool true) (fun _ _ => rfl) (fun _ _ => rfl) rfl rfl rfl rfl (fun e => ⟨e, rfl⟩)
  have hc1 : Chg k vp w (w.setCell ⟨k, 11, none⟩ (.bool true)) := Chg.grown (grown_setCell _ _ _ _) (.inl rfl)
  have hok : ({ s with shut := true } : TS).Ok := ⟨hb.inn, hb.out, hb.irs, hb.iss, hb.w0, hb.w1, hb.st, hb.sn, hb.early, hb.win, hb.fe, hb.tim, hb.u1⟩
  have HP := Lib.hid (push_calls h1 (fun b hb => Nat.lt_of_lt_of_le (hN b hb) hc1.size) hok hp)
  have HC1 := Lib.hid hc1
  obtain ⟨st, hst⟩ : ∃ st, s.state = st := ⟨_, rfl⟩
  obtain ⟨sh, hsh⟩ : ∃ sh, s.shut = sh := ⟨_, rfl⟩
  have HC : Hid (s.close = if st ≠ 0 ∧ st ≠ 5 ∧ sh = false then { s with shut := true }.push else s) := Lib.hid (by rw [← hst, ← hsh]; rfl)
  rw [hst] at c2069 HM
  rw [hsh] at c11
  have hkl := h.lt.1
  clear h h1 hc1 hN hb hok hp hst hsh
  by_cases h0 : st = 0
  · have HX : Hid (s.close = s) := Lib.hid (by rw [HC.out]; exact if_neg (fun h => h.1 h0))
    subst h0
    go_enter Try.func29, Try.ntmps29
    go_wp2_with fail
    refine HM.out.mono ?_
    rintro e w1 ⟨rfl, rfl⟩
    go_wp2_with fail
    go_end0
    exact ⟨vp, rfl, by rw [HX.out]; exact H.out, Chg.refl _ _ _, After.refl _ _⟩
  · have d0 : decide (st ≠ 0) = true := decide_eq_true h0
    rw [d0] at HM
    clear d0
    by_cases h5 : st = 5
    · have HX : Hid (s.close = s) := Lib.hid (by rw [HC.out]; exact if_neg (fun h => h.2.1 h5))
      subst h5
      go_enter Try.func29, Try.ntmps29
      go_wp2_with fail
      refine HM.out.mono ?_
      rintro e w1 ⟨rfl, rfl⟩
      go_wp2_with fail
      go_end0
      exact ⟨vp, rfl, by rw [HX.out]; exact H.out, Chg.refl _ _ _, After.refl _ _⟩
    · have e5 : ((st : Int) == 5) = false := beq_eq_false_iff_ne.2 (by omega)
      have e5' : ((st : Int) != 5) = true := by simp; omega
      cases sh with
      | true =>
        have HX : Hid (s.close = s) := Lib.hid (by rw [HC.out]; exact if_neg (fun h => by cases h.2.2))
        go_enter Try.func29, Try.ntmps29
        go_wp2_with fail
        refine HM.out.mono ?_
        rintro e w1 ⟨rfl, rfl⟩
        go_wp2_with fail
        go_end0
        exact ⟨vp, rfl, by rw [HX.out]; exact H.out, Chg.refl _ _ _, After.refl _ _⟩
      | false =>
        have HX : Hid (s.close = { s with shut := true }.push) := Lib.hid (by rw [HC.out]; exact if_pos (show st ≠ 0 ∧ st ≠ 5 ∧ false = false from ⟨h0, h5, rfl⟩))
        go_enter Try.func29, Try.ntmps29
        go_wp2_with fail
        refine HM.out.mono ?_
        rintro e w1 ⟨rfl, rfl⟩
        go_wp2_with fail
        refine HP.out.mono ?_
        rintro e3 w3 ⟨vp3, rfl, h3, hc3, ha3⟩
        have H3 := Lib.hid h3
        have HC3 : Hid (Chg k vp _ w3) := Lib.hid (HC1.out.trans hc3 (After.refl _ _))
        have HA3 : Hid (After _ vp vp3) := Lib.hid (ha3.earlier HC1.out.size)
        clear h3 hc3 ha3
        go_wp2_with fail
        go_end0
        exact ⟨vp3, rfl, by rw [HX.out]; exact H3.out, HC3.out, HA3.out⟩
set_option maxRecDepth 100000 in
theorem room_calls (h : ConnIs N w k s vp) (hb : s.out.length ≤ 1024) :
    Calls Try.prog 32 #[.pointer (some ⟨k, 0, none⟩)] w fun e w' => e = .returned (.int .i64 (s.room : Int)) ∧ w = w' := by
  have HM := Lib.hid (made_calls w k s vp h)
  have c2069 := h.cellT 4 (fun _ _ => rfl) 2069 rfl
  have c11 := h.cellH 11 (by decide) (fun _ _ => rfl)
  obtain ⟨A, c, c9, _⟩ := h.cellO
  obtain ⟨R, hR⟩ : ∃ R, s.room = R := ⟨_, rfl⟩
  have hC := TS.closed_of s
  obtain ⟨n, hn⟩ : ∃ n, s.out.length = n := ⟨_, rfl⟩
  have hr : R = if s.closed = true then 0 else 1024 - n := by rw [← hR, ← hn]; rfl
  obtain ⟨st, hst⟩ : ∃ st, s.state = st := ⟨_, rfl⟩
  obtain ⟨sh, hsh⟩ : ∃ sh, s.shut = sh := ⟨_, rfl⟩
  rw [hst] at c2069 HM hC
  rw [hsh] at c11 hC
  rw [hn] at c9 hb
  rw [hR]
  have HR := Lib.hid hr
  have HCL := Lib.hid hC
  clear h hn hst hsh hR hr hC
  by_cases h0 : st = 0
  · have HX : Hid (R = 0) := Lib.hid (by rw [HR.out, if_pos (HCL.out.2 (.inl h0))])
    subst h0
    go_enter Try.func32, Try.ntmps32
    go_wp2_with fail
    refine HM.out.mono ?_
    rintro e w1 ⟨rfl, rfl⟩
    go_wp2_with fail
    go_ret
    exact ⟨ret_int (by rw [HX.out]; rfl), rfl⟩
  · have d0 : decide (st ≠ 0) = true := decide_eq_true h0
    rw [d0] at HM
    clear d0
    cases sh with
    | true =>
      have HX : Hid (R = 0) := Lib.hid (by rw [HR.out, if_pos (HCL.out.2 (.inr (.inl rfl)))])
      go_enter Try.func32, Try.ntmps32
      go_wp2_with fail
      refine HM.out.mono ?_
      rintro e w1 ⟨rfl, rfl⟩
      go_wp2_with fail
      go_ret
      exact ⟨ret_int (by rw [HX.out]; rfl), rfl⟩
    | false =>
      by_cases h5 : st = 5 ∨ st = 4
      · have HX : Hid (R = 0) := Lib.hid (by rw [HR.out, if_pos (HCL.out.2 (.inr (.inr h5)))])
        rcases h5 with rfl | rfl
        all_goals
          go_enter Try.func32, Try.ntmps32
          go_wp2_with fail
          refine HM.out.mono ?_
          rintro e w1 ⟨rfl, rfl⟩
          go_wp2_with fail
          go_ret
          exact ⟨ret_int (by rw [HX.out]; rfl), rfl⟩
      · have HX : Hid (R = 1024 - n) := Lib.hid (by rw [HR.out, if_neg (fun e => by rcases HCL.out.1 e with h | h | h | h <;> first | omega | cases h)])
        have e4 : ((st : Int) == 4) = false := beq_eq_false_iff_ne.2 (by omega)
        have e5 : ((st : Int) == 5) = false := beq_eq_false_iff_ne.2 (by omega)
        clear h5 h0
        go_enter Try.func32, Try.ntmps32
        go_wp2_with fail
        refine HM.out.mono ?_
        rintro e w1 ⟨rfl, rfl⟩
        go_wp2_with fail
        go_ret
        exact ⟨ret_int (by rw [HX.out]; omega), rfl⟩
/-- Out: the packets, and none are left. -/
theorem out_calls (h : ConnIs N w k s vp) :
    Calls Try.prog 34 #[.pointer (some ⟨k, 0, none⟩)] w fun e w' =>
      (s.state = 0 ∧ e = .returned (.slice none 0 0) ∧ w' = w) ∨ (s.state ≠ 0 ∧ e = .returned vp ∧ w' = w.setCell ⟨k, 2073, none⟩ (.slice none 0 0)) := by
  have HM := Lib.hid (made_calls w k s vp h)
  have c2073 := h.cellP
  have f2073 := h.frozen 2073
  have hvf : ∃ A m c, vp = .slice A m c := by
    obtain ⟨vo, vi, fe, eh, _, _, _, _, _, _, hpk, _⟩ := h
    exact hpk.form'
  obtain ⟨A, m, c, rfl⟩ := hvf
  obtain ⟨st, hst⟩ : ∃ st, s.state = st := ⟨_, rfl⟩
  rw [hst] at HM ⊢
  clear h hst
  by_cases h0 : st = 0
  · subst h0
    go_enter Try.func34, Try.ntmps34
    go_wp2_with fail
    refine HM.out.mono ?_
    rintro e w1 ⟨rfl, rfl⟩
    go_wp2_with fail
    go_ret
    exact .inl ⟨trivial, rfl, rfl⟩
  · have d0 : decide (st ≠ 0) = true := decide_eq_true h0
    rw [d0] at HM
    have H0 := Lib.hid h0
    clear d0
    go_enter Try.func34, Try.ntmps34
    go_wp2_with fail
    refine HM.out.mono ?_
    rintro e w1 ⟨rfl, rfl⟩
    go_wp2_with fail
    go_ret
    exact .inr ⟨H0.out, rfl, rfl⟩
end
end Go.Proofs.Ytjhnnnklfhbebaa
namespace Go.Proofs.Ytjhnnnklfhbebaa
open Go.RowKit
set_option linter.unusedVariables false
def MonoS (S : Nat) (f : Value → World → Prop) : Prop := ∀ v w1 w2, S ≤ w1.heap.size → Below S w1 w2 → f v w1 → f v w2
def MonoNs (S : Nat) (M : List Nat) (T L : Nat) : List (Value → World → Prop) → Nat → Prop
  | [], _ => True
  | f :: r, i => (i = T ∨ L ≤ i ∨ M.contains i = true ∨ MonoS S f) ∧ MonoNs S M T L r (i + 1)
theorem MonoS.eq (S : Nat) (x : Value) : MonoS S (fun u _ => u = x) := fun _ _ _ _ _ h => h
theorem MonoS.triv (S : Nat) : MonoS S (fun _ _ => True) := fun _ _ _ _ _ h => h
theorem MonoNs.at {S : Nat} {M : List Nat} {T L : Nat} : ∀ {F : List (Value → World → Prop)} {k : Nat}, MonoNs S M T L F k → ∀ i, k + i ≠ T → k + i < L → M.contains (k + i) = false → MonoS S (factAt F i)
  | [], _, _, _, _, _, _ => fun _ _ _ _ _ _ => trivial
  | _ :: _, k, h, 0, hi, hl, hm => ((h.1.resolve_left hi).resolve_left (by omega)).resolve_left (by rw [show k = k + 0 from rfl, hm]; decide)
  | _ :: _, k, h, i + 1, hi, hl, hm => MonoNs.at h.2 i (by omega) (by omega) (by rw [show k + 1 + i = k + (i + 1) by omega]; exact hm)
section
variable {P : Program} {ops : Array Oper} {Q : Exit → Act → World → Prop}
def StepN (P : Program) (ops : Array Oper) (Q : Exit → Act → World → Prop) (B : List (List Nat)) (F : List (Value → World → Prop)) (st : (Nat → Value) → Act) (u0 : Nat → Value) (I0 : World → Prop) (S : Nat) (G0 : World → Prop) (M : List Nat) (T L : Nat) (FL : (Nat → Value) → World → Prop) (i : Nat) (o : Oper) : Prop :=
  ∀ (u : Nat → Value) (w2 : World), I0 w2 → S ≤ w2.heap.size → (i = T → G0 w2) → (∀ j ∈ B.getD i [], (M.contains j = false ∨ i = T) → factAt F j (u j) w2) → (∀ j, i ∈ B.getD j [] → u j = u0 j) → ∀ (J K : Act → World → Prop),
    (∀ v w3 a', w2.heap.size ≤ w3.heap.size → (i ≠ L → I0 w3 ∧ (i ≠ T → Below w2.heap.size w2 w3) ∧ (i = T → Below S w2 w3) ∧ factAt F i v w3) → (i = L → FL u w3) → a' = st (setU u i v) → J a' w3) → (∀ a' w', StopF J a' w' → K a' w') → wpList P ops (Exit.then K Q) [o] (st u) w2
def StepsN (P : Program) (ops : Array Oper) (Q : Exit → Act → World → Prop) (B : List (List Nat)) (F : List (Value → World → Prop)) (st : (Nat → Value) → Act) (u0 : Nat → Value) (I0 : World → Prop) (S : Nat) (G0 : World → Prop) (M : List Nat) (T L : Nat) (FL : (Nat → Value) → World → Prop) : List Oper → Nat → Prop
  | [], _ => True
  | o :: r, i => StepN P ops Q B F st u0 I0 S G0 M T L FL i o ∧ StepsN P ops Q B F st u0 I0 S G0 M T L FL r (i + 1)
def InvN (B : List (List Nat)) (F : List (Value → World → Prop)) (st : (Nat → Value) → Act) (u0 : Nat → Value) (I0 : World → Prop) (S : Nat) (G0 : World → Prop) (M : List Nat) (T L : Nat) (FL : (Nat → Value) → World → Prop) (b : Nat → Bool) (a : Act) (w : World) : Prop :=
  ∃ u : Nat → Value, a = st u ∧ (∀ j, b j = false → u j = u0 j) ∧ (∀ j k, k ∈ B.getD j [] → b j = true → b k = true) ∧ S ≤ w.heap.size ∧
    (b L = false → I0 w ∧ (b T = false → G0 w) ∧ ∀ j, b j = true → (M.contains j = false ∨ b T = false) → factAt F j (u j) w) ∧ (b L = true → FL u w)
theorem steps_of_N {B : List (List Nat)} {F : List (Value → World → Prop)} {st : (Nat → Value) → Act} {u0 : Nat → Value} {I0 : World → Prop} {S : Nat} {G0 : World → Prop} {M : List Nat} {T L n : Nat} {FL : (Nat → Value) → World → Prop} (hF : MonoAll F) (hR : MonoNs S M T L F 0)
    (hG : ∀ w1 w2, Below w1.heap.size w1 w2 → G0 w1 → G0 w2) (hFL : ∀ u v w, FL u w → FL (setU u L v) w) (hO : orderI B T L n = true) (hFn : F.length ≤ L) : ∀ {l : List Oper} {k : Nat}, k + l.length ≤ n → StepsN P ops Q B F st u0 I0 S G0 M T L FL l k → StepsOf P ops Q B (InvN B F st u0 I0 S G0 M T L FL) l k
  | [], _, _, _ => trivial
  | _ :: r, i, hn, hs => ⟨fun b a w2 hI hbi hB J K hJ hK => by
      obtain ⟨u, rfl, hz, hc, hS, hpre, hpost⟩ := hI
      simp only [orderI, Bool.and_eq_true, List.all_eq_true, List.mem_range, List.contains_eq_mem, decide_eq_true_eq] at hO
      obtain ⟨⟨o2, o3⟩, o4⟩ := hO
      have hiL : i ≤ L := by simp at hn; omega
      have hbL : b L = false := by
        cases hb' : b L with
        | false => rfl
        | true =>
          rcases Nat.lt_or_eq_of_le hiL with h | h
          · have := hc L i (o2 i h) hb'; rw [hbi] at this; cases this
          · rw [← h, hbi] at hb'; cases hb'
      obtain ⟨hI0, hg, hf⟩ := hpre hbL
      refine hs.1 u w2 hI0 hS (fun h => hg (h ▸ hbi)) (fun j hj hm => hf j (hB j hj) (hm.imp id (fun (e : i = T) => by rw [← e]; exact hbi))) (fun j hj => hz j (by
        cases hbj : b j with
        | false => rfl
        | true => rw [hc j i hj hbj] at hbi; cases hbi)) (fun a' w' => Stop J b i a' w') K ?_ hK
      rintro v w3 _ hz3 hn1 hn2 rfl
      refine hJ _ _ _ ⟨setU u i v, rfl, ?_, ?_, Nat.le_trans hS hz3, ?_, ?_⟩
      · intro j hj
        by_cases h : j = i
        · rw [h, upd_self] at hj; cases hj
        · rw [upd_ne h] at hj
          rw [setU_ne h]
          exact hz j hj
      · intro j k hk hj
        by_cases hki : k = i
        · rw [hki, upd_self]
        · rw [upd_ne hki]
          by_cases hji : j = i
          · exact hB k (hji ▸ hk)
          · rw [upd_ne hji] at hj
            exact hc j k hk hj
      · intro hL
        have hLi : i ≠ L := fun h => by rw [h, upd_self] at hL; cases hL
        obtain ⟨h1, h2, h3, h4⟩ := hn1 hLi
        refine ⟨h1, fun hT => ?_, fun j hj hm => ?_⟩
        · have hTi : T ≠ i := fun h => by rw [h, upd_self] at hT; cases hT
          rw [upd_ne hTi] at hT
          exact hG _ _ (h2 (fun e => hTi e.symm)) (hg hT)
        · by_cases h : j = i
          · rw [h, setU_self]
            exact h4
          · rw [upd_ne h] at hj
            rw [setU_ne h]
            by_cases hjL : j < L
            · by_cases hTi : i = T
              · have hmj : M.contains j = false := hm.elim id (fun e => by rw [hTi, upd_self] at e; cases e)
                exact MonoNs.at hR j (by omega) (by omega) (by rw [Nat.zero_add]; exact hmj) _ _ _ hS (h3 hTi) (hf j hj (.inl hmj))
              · exact MonoAll.at hF j _ _ _ (h2 hTi) (hf j hj (hm.imp id (fun e => by rwa [upd_ne (fun e => hTi e.symm)] at e)))
            · unfold factAt
              rw [List.getD_eq_getElem?_getD, List.getElem?_eq_none (by omega)]
              trivial
      · intro hL
        have hLi : i = L := by
          rcases Nat.lt_or_eq_of_le hiL with h | h
          · rw [upd_ne (by omega), hbL] at hL; cases hL
          · exact h
        subst hLi
        exact hFL _ _ _ (hn2 rfl), steps_of_N hF hR hG hFL hO hFn (by simp at hn; omega) hs.2⟩
/-- THE RULE. -/
theorem wp_region_new {id : Nat} {l : List Oper} {a : Act} {w : World} (B : List (List Nat)) (F : List (Value → World → Prop)) (st : (Nat → Value) → Act) (I0 : World → Prop) (G0 : World → Prop) (M : List Nat) (T L : Nat) (FL : (Nat → Value) → World → Prop) (u0 : Nat → Value) (hm : P.follows .mixedOrders = true)
    (hk : backB l.toArray = true) (hB : aheadB l.toArray B = true) (ha : a = st u0) (hO : orderI B T L l.length = true) (hFn : F.length ≤ L) (hF : MonoAll F) (hR : MonoNs w.heap.size M T L F 0)
    (hG : ∀ w1 w2, Below w1.heap.size w1 w2 → G0 w1 → G0 w2) (hFL : ∀ u v w, FL u w → FL (setU u L v) w) (hb0 : I0 w.drew) (hg0 : G0 w)
    (hs : StepsN P l.toArray Q B F st u0 I0 w.heap.size G0 M T L FL l 0) (hend : ∀ u w2, w.heap.size ≤ w2.heap.size → FL u w2 → Q .normal (st u) w2) : (Code.region id l.toArray true).wp P Q a w := by
  subst ha
  have hL : L < l.length := by
    simp only [orderI, Bool.and_eq_true, decide_eq_true_eq] at hO
    omega
  refine wp_region_rel B _ hm hk hB ⟨u0, rfl, (fun _ _ => rfl), (fun _ _ _ h => by cases h), Nat.le_refl _, (fun _ => ⟨hb0, fun _ => hG _ _ (Below.refl _ _).drew hg0, fun _ h => by cases h⟩), (fun h => by cases h)⟩ (steps_of_N hF hR hG hFL hO hFn (by simp) hs) ?_
  rintro b a w2 hall ⟨u, rfl, _, _, hS, _, hf⟩
  exact hend u w2 hS (hf (hall L hL))
end
end Go.Proofs.Ytjhnnnklfhbebaa
namespace Go.Proofs.Ytjhnnnklfhbebaa
open Go.RowKit
set_option linter.unusedVariables false
set_option linter.unusedSimpArgs false
def zeroE : List Value := [.int .i64 0, .int .i64 0, .int .i64 0, .int .i64 0, .int .i64 0, .bool false, .bool false]
/-- What End tells, as cells. -/
def TS.tell (s : TS) : List Value := if s.state = 0 then zeroE else [.int .i64 (s.state : Int), .int .i64 (s.sent : Int), .int .i64 (s.out.length : Int), .int .i64 (s.got : Int), .int .i64 (s.inn.length : Int), .bool s.fin, .bool s.shut]
theorem infoE (cs : List Value) (h : cs.length = 7) : (Try.prog.info? 56).map (·.size) = some cs.toArray.size := by
  rw [show cs.toArray.size = 7 by simp [h]]
  kernel_rfl
section
variable {N : Nat → Prop} {w : World} {k : Nat} {s : TS} {vp : Value}
set_option maxRecDepth 100000 in
set_option maxHeartbeats 1000000 in
theorem end_calls (h : ConnIs N w k s vp) :
    Calls Try.prog 26 #[.pointer (some ⟨k, 0, none⟩)] w fun e w' => e = .returned (.agg s.tell.toArray) ∧ Below w.heap.size w w' := by
  have H := Lib.hid h
  have hkl := h.lt.1
  have HT : Hid (s.tell = if s.state = 0 then zeroE else [.int .i64 (s.state : Int), .int .i64 (s.sent : Int), .int .i64 (s.out.length : Int), .int .i64 (s.got : Int), .int .i64 (s.inn.length : Int), .bool s.fin, .bool s.shut]) := Lib.hid rfl
  obtain ⟨T, hT⟩ : ∃ T, s.tell = T := ⟨_, rfl⟩
  rw [hT] at HT
  rw [hT]
  clear h hT
  go_enter Try.func26, Try.ntmps26
  go_wp2_with fail
  have HM := Lib.hid (made_calls _ k s vp (H.out.ext (ext_alloc w (.cells zeroE.toArray 56))))
  obtain ⟨st, hst⟩ : ∃ st, s.state = st := ⟨_, rfl⟩
  have HST := Lib.hid hst
  rw [hst] at HM HT
  clear hst
  refine HM.out.mono ?_
  rintro e w1 ⟨rfl, rfl⟩
  clear HM
  by_cases h0 : st = 0
  · have HX : Hid (T = zeroE) := Lib.hid (by rw [HT.out, if_pos h0])
    subst h0
    go_upto_region 2 with fail
    refine name_world (fun W => BK W w.heap.size 56 zeroE ∧ Below w.heap.size w W) ⟨BK.new _ _ _, ext_alloc _ _⟩ ?_
    rintro w2 ⟨hk, hb⟩
    have HK := Lib.hid hk
    have HB := Lib.hid hb
    clear hk hb
    go_wp2_with ((with_reducible refine (?_ : wpList _ _ _ [_] _ _)); refine wpList_store_bk rfl 56 _ _ rfl w.heap.size zeroE rfl rfl 56 _ HK.out (infoE _ rfl) rfl (by simp [zeroE, Value.oneCell']) ?_)
    intro w3 hk3 hg3 hz3
    have HK3 := Lib.hid hk3
    have HB3 := Lib.hid (below_grown HB.out hg3 HB.out.size (Nat.le_refl _))
    clear hk3 hg3 hz3
    go_wp2_with fail
    refine bodyPost_ret (results_cell_row rfl _ _ w.heap.size 56 _ (0, 0) _ rfl HK3.out Try.underlying56 rfl (infoE _ rfl)) rfl ?_
    exact ⟨by rw [HX.out], HB3.out⟩
  · have HX : Hid (T = [.int .i64 (st : Int), .int .i64 (s.sent : Int), .int .i64 (s.out.length : Int), .int .i64 (s.got : Int), .int .i64 (s.inn.length : Int), .bool s.fin, .bool s.shut]) := Lib.hid (by rw [HT.out, if_neg h0])
    have d0 : decide (st ≠ 0) = true := decide_eq_true h0
    rw [d0]
    clear d0
    go_upto_region 3 with fail
    refine name_world (fun W => BK W w.heap.size 56 zeroE ∧ Below w.heap.size w W) ⟨BK.new _ _ _, ext_alloc _ _⟩ ?_
    rintro w2 ⟨hk, hb⟩
    have h2 := H.out.ext hb
    have c2069 := h2.cellT 4 (fun _ _ => rfl) 2069 rfl
    rw [HST.out] at c2069
    have c13 := h2.cellH 13 (by decide) (fun _ _ => rfl)
    have c11 := h2.cellH 11 (by decide) (fun _ _ => rfl)
    have c2067 := h2.cellT 2 (fun _ _ => rfl) 2067 rfl
    have c2068 := h2.cellT 3 (fun _ _ => rfl) 2068 rfl
    obtain ⟨A, c, c9, _⟩ := h2.cellO
    obtain ⟨A2, c2, c16, _⟩ := h2.cellI
    have HK : Hid (BK w2.drew w.heap.size 56 zeroE) := Lib.hid (hk.ext (Below.refl _ _).drew)
    have HB : Hid (Below w.heap.size w w2.drew) := Lib.hid hb.drew
    clear hk hb h2
    go_still_tail 37, (by kernel_rfl)
    change wpList _ _ _ _ _ w2.drew
    generalize w2.drew = w4 at HK HB ⊢
    clear c2069 c13 c11 c2067 c2068 c9 c16
    go_wp2_with ((with_reducible refine (?_ : wpList _ _ _ [_] _ _)); refine wpList_store_bk rfl 56 _ _ rfl w.heap.size [.int .i64 (st : Int), .int .i64 (s.sent : Int), .int .i64 (s.out.length : Int), .int .i64 (s.got : Int), .int .i64 (s.inn.length : Int), .bool s.fin, .bool s.shut] rfl rfl 56 _ HK.out (infoE _ rfl) rfl (by simp [Value.oneCell']) ?_)
    intro w3 hk3 hg3 hz3
    have HK3 := Lib.hid hk3
    have HB3 := Lib.hid (below_grown HB.out hg3 HB.out.size (Nat.le_refl _))
    clear hk3 hg3 hz3
    go_wp2_with fail
    refine bodyPost_ret (results_cell_row rfl _ _ w.heap.size 56 _ (0, 0) _ rfl HK3.out Try.underlying56 rfl (infoE _ rfl)) rfl ?_
    exact ⟨by rw [HX.out], HB3.out⟩
end
end Go.Proofs.Ytjhnnnklfhbebaa
namespace Go.Proofs.Ytjhnnnklfhbebaa
open Go.RowKit
set_option linter.unusedVariables false
set_option linter.unusedSimpArgs false
theorem OwnU.mono (S : Nat) (l : List UInt8) : Mono (fun u w => OwnB S 5 w u l) := fun v w1 w2 h ho => ho.ext h
theorem OwnB.form' {S : Nat} {w : World} {v : Value} {l : List UInt8} (h : OwnB S 5 w v l) : ∃ A m c, v = .slice A m c := by
  obtain ⟨A, c, e, _⟩ := h.form
  exact ⟨A, _, c, e⟩
section
variable {N : Nat → Prop} {w : World} {k : Nat} {s : TS} {vp : Value}
set_option maxRecDepth 100000 in
set_option maxHeartbeats 1000000 in
theorem write_closed (h : ConnIs N w k s vp) (hc : s.closed = true) (A : Option Addr) (n c : Nat) :
    Calls Try.prog 31 #[.pointer (some ⟨k, 0, none⟩), .slice A n c] w fun e w' => e = .returned (.int .i64 0) ∧ w = w' := by
  have HM := Lib.hid (made_calls w k s vp h)
  have c2069 := h.cellT 4 (fun _ _ => rfl) 2069 rfl
  have c11 := h.cellH 11 (by decide) (fun _ _ => rfl)
  have hC := (TS.closed_of s).1 hc
  obtain ⟨st, hst⟩ : ∃ st, s.state = st := ⟨_, rfl⟩
  obtain ⟨sh, hsh⟩ : ∃ sh, s.shut = sh := ⟨_, rfl⟩
  rw [hst] at c2069 HM hC
  rw [hsh] at c11 hC
  clear h hst hsh hc
  by_cases h0 : st = 0
  · subst h0
    clear hC
    go_enter Try.func31, Try.ntmps31
    go_wp2_with fail
    refine HM.out.mono ?_
    rintro e w1 ⟨rfl, rfl⟩
    go_wp2_with fail
    go_ret
    exact ⟨rfl, rfl⟩
  · have d0 : decide (st ≠ 0) = true := decide_eq_true h0
    rw [d0] at HM
    clear d0
    cases sh with
    | true =>
      clear hC h0
      go_enter Try.func31, Try.ntmps31
      go_wp2_with fail
      refine HM.out.mono ?_
      rintro e w1 ⟨rfl, rfl⟩
      go_wp2_with fail
      go_ret
      exact ⟨rfl, rfl⟩
    | false =>
      have h5 : st = 5 ∨ st = 4 := by
        rcases hC with h | h | h | h
        · omega
        · cases h
        · exact .inl h
        · exact .inr h
      clear hC h0
      rcases h5 with rfl | rfl
      all_goals
        go_enter Try.func31, Try.ntmps31
        go_wp2_with fail
        refine HM.out.mono ?_
        rintro e w1 ⟨rfl, rfl⟩
        go_wp2_with fail
        go_ret
        exact ⟨rfl, rfl⟩
set_option maxRecDepth 100000 in
set_option maxHeartbeats 2000000 in
theorem write_open (h : ConnIs N w k s vp) (hN : ∀ b, N b → b < w.heap.size) (hb : s.Ok) (hp : s.pack.length ≤ 700000) (hc : ¬ s.closed = true) (A : Option Addr) (n c : Nat) (b : List UInt8) (hn : b.length = n) (hl : n ≤ 9223372036854775807) (hnc : n ≤ c) (hr : RB w A b) :
    Calls Try.prog 31 #[.pointer (some ⟨k, 0, none⟩), .slice A n c] w (Did N w k vp (s.write b).2 (.int .i64 ((s.write b).1 : Int))) := by
  have HM := Lib.hid (made_calls w k s vp h)
  have c2069 := h.cellT 4 (fun _ _ => rfl) 2069 rfl
  have c11 := h.cellH 11 (by decide) (fun _ _ => rfl)
  obtain ⟨A0, c0, c9, k1, k2, k3, k4⟩ := h.cellO
  obtain ⟨o, ho⟩ : ∃ o, s.out.length = o := ⟨_, rfl⟩
  obtain ⟨m, hm⟩ : ∃ m, min n (1024 - o) = m := ⟨_, rfl⟩
  have hout := hb.out
  rw [ho] at c9 k1 hout
  have HW : Hid (s.write b = (m, { s with out := s.out ++ b.take m }.push)) := Lib.hid (by unfold TS.write; rw [if_neg hc, hn, ho, hm])
  have hC : ¬ (s.state = 0 ∨ s.shut = true ∨ s.state = 5 ∨ s.state = 4) := fun e => hc ((TS.closed_of s).2 e)
  have hsh : s.shut = false := by
    cases hs : s.shut with
    | false => rfl
    | true => exact absurd (.inr (.inl hs)) hC
  rw [hsh] at c11
  obtain ⟨st, hst⟩ : ∃ st, s.state = st := ⟨_, rfl⟩
  rw [hst] at c2069 HM hC
  have h0 : st ≠ 0 := fun e => hC (.inl e)
  have d0 : decide (st ≠ 0) = true := decide_eq_true h0
  rw [d0] at HM
  have e4 : ((st : Int) == 4) = false := beq_eq_false_iff_ne.2 (by omega)
  have e5 : ((st : Int) == 5) = false := beq_eq_false_iff_ne.2 (by omega)
  have hok : ({ s with out := s.out ++ b.take m } : TS).Ok := ⟨hb.inn, by show (s.out ++ b.take m).length ≤ 1024; rw [List.length_append, List.length_take]; omega, hb.irs, hb.iss, hb.w0, hb.w1, hb.st, fun e => by
    have := hb.sn e
    refine ⟨this.1, this.2.1, ?_⟩
    show s.top ≤ s.una + (s.out ++ b.take m).length + 1
    rw [List.length_append]
    omega, hb.early, hb.win, hb.fe, hb.tim, hb.u1⟩
  have hmn : m ≤ n := by omega
  have hmo : m ≤ 1024 - o := by omega
  have HMM := Lib.hid hm
  have HBL := Lib.hid hn
  have HOL := Lib.hid ho
  have HOK := Lib.hid hok
  have H := Lib.hid h
  have HN := Lib.hid hN
  have HRB := Lib.hid hr
  have hkl := h.lt.1
  obtain ⟨S, hS⟩ : ∃ S, w.heap.size = S := ⟨_, rfl⟩
  have HS := Lib.hid hS
  have HNS : Hid (∀ b, NN N k vp b → b < S) := Lib.hid fun b hb => by
    rcases hb with hb | hb | hb
    · exact hS ▸ hN b hb
    · rw [hb]; omega
    · exact hS ▸ h.lt.2 b hb
  clear h hN hr hc hb hok hn hm ho hst hsh h0 d0 hC k1 k2 k3 k4 c9 hS
  go_enter Try.func31, Try.ntmps31
  go_wp2_with fail
  refine HM.out.mono ?_
  rintro e w1 ⟨rfl, rfl⟩
  clear HM
  obtain ⟨A0, c0, c9, k1, k2, k3, k4⟩ := H.out.cellO
  rw [HOL.out] at c9 k1
  have K3 := Lib.hid k3
  clear k3 k4
  have w1' : IntKind.i64.wrap (1024 - (o : Int)) = 1024 - (o : Int) := IntWalk.i64_in _ (by omega)
  go_upto_region 3 with fail
  go_cut [5] from 30 to 39 (fun v wc => v = .int .i64 (m : Int) ∧ w = wc)
  case first =>
    rcases Int.lt_or_le (1024 - (o : Int)) (n : Int) with h1 | h1
    · go_wp2_with fail
      go_meet
      case rel => exact ⟨by first | (congr 1; have := HMM.out; omega) | (have : (n : Int) = (m : Int) := by have := HMM.out; omega; rw [this]), rfl⟩
    · go_wp2_with fail
      go_meet
      case rel => exact ⟨by first | (congr 1; have := HMM.out; omega) | (have : (n : Int) = (m : Int) := by have := HMM.out; omega; rw [this]), rfl⟩
  case rest =>
    obtain ⟨rfl, rfl⟩ := hcut
    clear w1' c2069 c11 e4 e5
    have hmc : ((m : Nat) : Int) ≤ (c : Int) := by omega
    have HI0 : Hid (Below S w w.drew) := Lib.hid (Below.refl _ _).drew
    have HFIN : Hid (∀ (W : World) (v : Value), Below S w W → OwnB S 5 W v (s.out ++ b.take m) → ConnIs N (W.setCell ⟨k, 9, none⟩ v) k { s with out := s.out ++ b.take m } vp ∧ Chg k vp w (W.setCell ⟨k, 9, none⟩ v)) := Lib.hid fun W v hB hO => by
      have hB' : Below w.heap.size w W := HS.out.symm ▸ hB
      exact ⟨(H.out.ext hB').setO { s with out := s.out ++ b.take m } v (SlN.of_own hO HNS.out) (fun _ _ => rfl) (fun _ _ => rfl) rfl rfl rfl (fun e => ⟨e, rfl⟩), (Chg.below hB').trans (Chg.grown (grown_setCell _ _ _ _) (.inl rfl)) (After.refl _ _)⟩
    go_upto_region 4 with fail

    refine wp_region_new [[], [], [1], [1, 2], [1, 2, 3], [1, 2, 3, 4], [1, 2, 3, 4, 5], [], [], [7, 8], [1, 2, 3, 4, 5, 6, 7, 8, 9], [0], [0, 11], [0, 11, 12], [0, 1, 2, 3, 4, 5, 6, 7, 8, 9, 10, 11, 12, 13]]
      [fun u _ => u = .pointer (some ⟨k, 0, none⟩),
       fun u _ => u = .pointer (some ⟨k, 0, none⟩),
       fun u _ => u = .pointer (some ⟨k, 0, none⟩),
       fun u _ => u = .pointer (some ⟨k, 5, none⟩),
       fun u _ => u = .pointer (some ⟨k, 9, none⟩),
       fun u _ => u = .slice A0 o c0,
       fun u w => ClonedAt S s.out o u w,
       fun u _ => u = .slice A n c,
       fun u _ => u = .int .i64 (m : Int),
       fun u _ => u = .slice A m c,
       fun u w => OwnB S 5 w u (s.out ++ b.take m),
       fun u _ => u = .pointer (some ⟨k, 0, none⟩),
       fun u _ => u = .pointer (some ⟨k, 5, none⟩),
       fun u _ => u = .pointer (some ⟨k, 9, none⟩)]
      (fun u => ⟨#[Value.pointer (some { block := k, off := 0 }), Value.slice A n c, undef, undef, Value.int IntKind.i64 0, Value.int IntKind.i64 (m : Int), Value.pointer (some { block := k, off := 0 }), Value.bool true, Value.bool false, Value.bool false, Value.pointer (some { block := k, off := 0 }), Value.pointer (some { block := k, off := 0 }), Value.pointer (some { block := k, off := 5 }), Value.pointer (some { block := k, off := 11 }), Value.bool false, Value.bool false, Value.bool false, Value.pointer (some { block := k, off := 0 }), Value.pointer (some { block := k, off := 0 }), Value.pointer (some { block := k, off := 2069 }), Value.int IntKind.i64 (st : Int), Value.bool false, Value.bool false, Value.bool false, Value.pointer (some { block := k, off := 0 }), Value.pointer (some { block := k, off := 0 }), Value.pointer (some { block := k, off := 2069 }), Value.int IntKind.i64 (st : Int), Value.bool false, Value.bool false, u30, u31, u32, u33, u34, u35, u36, u37, u38, u39, u 0, u 1, u 2, u 3, u 4, u 5, u 6, u 7, u 8, u 9, u 10, u 11, u 12, u 13, undef, undef, undef], []⟩)
      (fun W => Below S w W) (fun _ => True) [6] 10 14 (fun _ W => ConnIs N W k { s with out := s.out ++ b.take m } vp ∧ Chg k vp w W) (fun j => [undef, undef, undef, undef, undef, undef, undef, undef, undef, undef, undef, undef, undef, undef, undef].getD j undef) (by kernel_rfl) (by kernel_rfl) (by kernel_rfl) rfl (by kernel_rfl) (Nat.le_of_eq rfl) ⟨Mono.eq _, Mono.eq _, Mono.eq _, Mono.eq _, Mono.eq _, Mono.eq _, ClonedAt.mono _ _ _, Mono.eq _, Mono.eq _, Mono.eq _, OwnU.mono _ _, Mono.eq _, Mono.eq _, Mono.eq _, trivial⟩ ⟨.inr (.inr (.inr (MonoS.eq _ _))), ⟨.inr (.inr (.inr (MonoS.eq _ _))), ⟨.inr (.inr (.inr (MonoS.eq _ _))), ⟨.inr (.inr (.inr (MonoS.eq _ _))), ⟨.inr (.inr (.inr (MonoS.eq _ _))), ⟨.inr (.inr (.inr (MonoS.eq _ _))), ⟨.inr (.inr (.inl rfl)), ⟨.inr (.inr (.inr (MonoS.eq _ _))), ⟨.inr (.inr (.inr (MonoS.eq _ _))), ⟨.inr (.inr (.inr (MonoS.eq _ _))), ⟨.inl rfl, ⟨.inr (.inr (.inr (MonoS.eq _ _))), ⟨.inr (.inr (.inr (MonoS.eq _ _))), ⟨.inr (.inr (.inr (MonoS.eq _ _))), trivial⟩⟩⟩⟩⟩⟩⟩⟩⟩⟩⟩⟩⟩⟩
      (fun _ _ _ h => h) (fun _ _ _ h => h) (HI0.out) (trivial) ?_ ?_
    · refine ⟨?_, ?_, ?_, ?_, ?_, ?_, ?_, ?_, ?_, ?_, ?_, ?_, ?_, ?_, ?_, trivial⟩
      · intro u w2 hb hS hG hF hU J K hJ hK
        have HB2 := Lib.hid hb
        have HS2 := Lib.hid hS
        have HG2 := Lib.hid hG
        have HF := Lib.hid hF
        clear hb hF hS hG hU
        go_wp2
        exact hJ _ _ _ (Nat.le_refl _) (fun _ => ⟨HB2.out, fun _ => Below.refl _ _, fun h => absurd h (by decide), rfl⟩) (fun h => absurd h (by decide)) (by simp [setU] <;> omega)
      · intro u w2 hb hS hG hF hU J K hJ hK
        have HB2 := Lib.hid hb
        have HS2 := Lib.hid hS
        have HG2 := Lib.hid hG
        have HF := Lib.hid hF
        clear hb hF hS hG hU
        go_wp2
        exact hJ _ _ _ (Nat.le_refl _) (fun _ => ⟨HB2.out, fun _ => Below.refl _ _, fun h => absurd h (by decide), rfl⟩) (fun h => absurd h (by decide)) (by simp [setU] <;> omega)
      · intro u w2 hb hS hG hF hU J K hJ hK
        have HB2 := Lib.hid hb
        have HS2 := Lib.hid hS
        have HG2 := Lib.hid hG
        have HF := Lib.hid hF
        clear hb hF hS hG hU
        have f1 : u 1 = .pointer (some ⟨k, 0, none⟩) := HF.out 1 (by decide) (by decide)
        go_wp2
        exact hJ _ _ _ (Nat.le_refl _) (fun _ => ⟨HB2.out, fun _ => Below.refl _ _, fun h => absurd h (by decide), rfl⟩) (fun h => absurd h (by decide)) (by simp [setU, f1] <;> omega)
      · intro u w2 hb hS hG hF hU J K hJ hK
        have HB2 := Lib.hid hb
        have HS2 := Lib.hid hS
        have HG2 := Lib.hid hG
        have HF := Lib.hid hF
        clear hb hF hS hG hU
        have f2 : u 2 = .pointer (some ⟨k, 0, none⟩) := HF.out 2 (by decide) (by decide)
        go_wp2
        exact hJ _ _ _ (Nat.le_refl _) (fun _ => ⟨HB2.out, fun _ => Below.refl _ _, fun h => absurd h (by decide), rfl⟩) (fun h => absurd h (by decide)) (by simp [setU, f2] <;> omega)
      · intro u w2 hb hS hG hF hU J K hJ hK
        have HB2 := Lib.hid hb
        have HS2 := Lib.hid hS
        have HG2 := Lib.hid hG
        have HF := Lib.hid hF
        clear hb hF hS hG hU
        have f3 : u 3 = .pointer (some ⟨k, 5, none⟩) := HF.out 3 (by decide) (by decide)
        go_wp2
        exact hJ _ _ _ (Nat.le_refl _) (fun _ => ⟨HB2.out, fun _ => Below.refl _ _, fun h => absurd h (by decide), rfl⟩) (fun h => absurd h (by decide)) (by simp [setU, f3] <;> omega)
      · intro u w2 hb hS hG hF hU J K hJ hK
        have HB2 := Lib.hid hb
        have HS2 := Lib.hid hS
        have HG2 := Lib.hid hG
        have HF := Lib.hid hF
        clear hb hF hS hG hU
        have f4 : u 4 = .pointer (some ⟨k, 9, none⟩) := HF.out 4 (by decide) (by decide)
        have cc := ((HS.out.symm ▸ HB2.out : Below w.heap.size w w2).cell (World.block_lt_of_cell? _ _ c9)).trans c9
        go_wp2
        exact hJ _ _ _ (Nat.le_refl _) (fun _ => ⟨HB2.out, fun _ => Below.refl _ _, fun h => absurd h (by decide), rfl⟩) (fun h => absurd h (by decide)) (by simp [setU, f4] <;> omega)
      · intro u w2 hb hS hG hF hU J K hJ hK
        have HB2 := Lib.hid hb
        have HS2 := Lib.hid hS
        have HG2 := Lib.hid hG
        have HF := Lib.hid hF
        clear hb hF hS hG hU
        have f5 : u 5 = .slice A0 o c0 := HF.out 5 (by decide) (by decide)
        go_wp2_with (go_at_call 64; refine (clone_k A0 c0 o s.out HOL.out w2 (K3.out.ext (HS.out.symm ▸ HB2.out)) (by omega)).mono ?_; rintro e w3 ⟨R, d, rfl, hd1, hd2, ho, hb⟩)
        have HO3 := Lib.hid ho; have HB3 := Lib.hid hb; clear ho hb
        exact hJ _ _ _ (HB3.out.size) (fun _ => ⟨HB2.out.trans (HB3.out.mono (HS.out ▸ HS2.out)), fun _ => HB3.out, fun h => absurd h (by decide), ⟨_, _, rfl, hd1, hd2, OwnB.mono HO3.out (HS.out ▸ HS2.out)⟩⟩) (fun h => absurd h (by decide)) (by simp [setU, f5] <;> omega)
      · intro u w2 hb hS hG hF hU J K hJ hK
        have HB2 := Lib.hid hb
        have HS2 := Lib.hid hS
        have HG2 := Lib.hid hG
        have HF := Lib.hid hF
        clear hb hF hS hG hU
        go_wp2
        exact hJ _ _ _ (Nat.le_refl _) (fun _ => ⟨HB2.out, fun _ => Below.refl _ _, fun h => absurd h (by decide), rfl⟩) (fun h => absurd h (by decide)) (by simp [setU] <;> omega)
      · intro u w2 hb hS hG hF hU J K hJ hK
        have HB2 := Lib.hid hb
        have HS2 := Lib.hid hS
        have HG2 := Lib.hid hG
        have HF := Lib.hid hF
        clear hb hF hS hG hU
        go_wp2
        exact hJ _ _ _ (Nat.le_refl _) (fun _ => ⟨HB2.out, fun _ => Below.refl _ _, fun h => absurd h (by decide), rfl⟩) (fun h => absurd h (by decide)) (by simp [setU] <;> omega)
      · intro u w2 hb hS hG hF hU J K hJ hK
        have HB2 := Lib.hid hb
        have HS2 := Lib.hid hS
        have HG2 := Lib.hid hG
        have HF := Lib.hid hF
        clear hb hF hS hG hU
        have f7 : u 7 = .slice A n c := HF.out 7 (by decide) (by decide)
        have f8 : u 8 = .int .i64 (m : Int) := HF.out 8 (by decide) (by decide)
        go_wp2
        exact hJ _ _ _ (Nat.le_refl _) (fun _ => ⟨HB2.out, fun _ => Below.refl _ _, fun h => absurd h (by decide), rfl⟩) (fun h => absurd h (by decide)) (by simp [setU, f7, f8] <;> omega)
      · intro u w2 hb hS hG hF hU J K hJ hK
        have HB2 := Lib.hid hb
        have HS2 := Lib.hid hS
        have HG2 := Lib.hid hG
        have HF := Lib.hid hF
        clear hb hF hS hG hU
        have f9 : u 9 = .slice A m c := HF.out 9 (by decide) (by decide)
        obtain ⟨R, d, f6, hd1, hd2, ho⟩ := HF.out 6 (by decide) (by decide)
        have HO3 := Lib.hid ho; clear ho
        have hsz : S ≤ w2.heap.size := HS.out ▸ HS2.out
        have HRB2 : Hid (RB w2 A (b.take m)) := Lib.hid ((HRB.out.take m).ext (HS.out.symm ▸ HB2.out))
        dsimp only
        rw [f6, f9]
        go_wp2_with ((with_reducible refine (?_ : wpList _ _ _ (_ :: _) _ _)); at_builtin; refine wpList_appB rfl _ _ 30 rfl S 5 Try.underlying30 infoB _ (s.out) rfl HO3.out _ _ _ (b.take m) rfl (by rw [List.length_take, HBL.out]; omega) HRB2.out (by rw [List.length_take, HBL.out, HOL.out]; omega) hsz ?_)
        intro v3 w3 ho3 hg3 _
        have HO4 := Lib.hid ho3; have HG3 := Lib.hid hg3; clear ho3 hg3
        go_wp2
        exact hJ _ _ _ (HG3.out.size) (fun _ => ⟨HO3.out.below HB2.out HG3.out hsz, fun h => absurd rfl h, fun _ => HS.out.symm ▸ HO3.out.below (Below.refl _ _) HG3.out hsz, HO4.out⟩) (fun h => absurd h (by decide)) (by simp [setU, f6, f9] <;> omega)
      · intro u w2 hb hS hG hF hU J K hJ hK
        have HB2 := Lib.hid hb
        have HS2 := Lib.hid hS
        have HG2 := Lib.hid hG
        have HF := Lib.hid hF
        clear hb hF hS hG hU
        have f0 : u 0 = .pointer (some ⟨k, 0, none⟩) := HF.out 0 (by decide) (by decide)
        go_wp2
        exact hJ _ _ _ (Nat.le_refl _) (fun _ => ⟨HB2.out, fun _ => Below.refl _ _, fun h => absurd h (by decide), rfl⟩) (fun h => absurd h (by decide)) (by simp [setU, f0] <;> omega)
      · intro u w2 hb hS hG hF hU J K hJ hK
        have HB2 := Lib.hid hb
        have HS2 := Lib.hid hS
        have HG2 := Lib.hid hG
        have HF := Lib.hid hF
        clear hb hF hS hG hU
        have f11 : u 11 = .pointer (some ⟨k, 0, none⟩) := HF.out 11 (by decide) (by decide)
        go_wp2
        exact hJ _ _ _ (Nat.le_refl _) (fun _ => ⟨HB2.out, fun _ => Below.refl _ _, fun h => absurd h (by decide), rfl⟩) (fun h => absurd h (by decide)) (by simp [setU, f11] <;> omega)
      · intro u w2 hb hS hG hF hU J K hJ hK
        have HB2 := Lib.hid hb
        have HS2 := Lib.hid hS
        have HG2 := Lib.hid hG
        have HF := Lib.hid hF
        clear hb hF hS hG hU
        have f12 : u 12 = .pointer (some ⟨k, 5, none⟩) := HF.out 12 (by decide) (by decide)
        go_wp2
        exact hJ _ _ _ (Nat.le_refl _) (fun _ => ⟨HB2.out, fun _ => Below.refl _ _, fun h => absurd h (by decide), rfl⟩) (fun h => absurd h (by decide)) (by simp [setU, f12] <;> omega)
      · intro u w2 hb hS hG hF hU J K hJ hK
        have HB2 := Lib.hid hb
        have HS2 := Lib.hid hS
        have HG2 := Lib.hid hG
        have HF := Lib.hid hF
        clear hb hF hS hG hU
        have f13 : u 13 = .pointer (some ⟨k, 9, none⟩) := HF.out 13 (by decide) (by decide)
        have hp7 := HF.out 10 (by decide) (by decide)
        obtain ⟨A7, m7, c7, f10⟩ := OwnB.form' hp7
        have HP7 : Hid (OwnB S 5 w2 (u 10) (s.out ++ b.take m)) := Lib.hid hp7
        rw [f10] at HP7
        have hlt2 : k < w2.heap.size := by have := HS2.out; omega
        have cc := ((HS.out.symm ▸ HB2.out : Below w.heap.size w w2).cell (World.block_lt_of_cell? _ _ c9)).trans c9
        have ff := (H.out.ext (HS.out.symm ▸ HB2.out)).frozen 9
        clear hp7
        dsimp only
        rw [f10, f13]
        go_wp2
        exact hJ undef _ _ ((by simp [World.setCell])) (fun h => absurd rfl h) (fun _ => HFIN.out w2 _ HB2.out HP7.out) (by simp [setU, f10, f13] <;> omega)
    · intro u w2 hS hFL
      have HS2 := Lib.hid hS
      have HFL := Lib.hid hFL
      clear hS hFL
      have HC1 := Lib.hid HFL.out.1
      have HG1 := Lib.hid HFL.out.2
      clear HFL
      try dsimp only
      have HN2 : Hid (∀ b, N b → b < w2.heap.size) := Lib.hid fun b hb => Nat.lt_of_lt_of_le (HN.out b hb) HG1.out.size
      go_wp2_with fail
      refine (push_calls HC1.out HN2.out HOK.out hp).mono ?_
      rintro e3 w3 ⟨vp3, rfl, h3, hc3, ha3⟩
      have H3 := Lib.hid h3
      have HC3 : Hid (Chg k vp w w3) := Lib.hid (HG1.out.trans hc3 (After.refl _ _))
      have HA3 : Hid (After w vp vp3) := Lib.hid (ha3.earlier HG1.out.size)
      clear h3 hc3 ha3
      go_wp2_with fail
      go_ret
      exact ⟨vp3, by rw [HW.out]; first | rfl | simp, by rw [HW.out]; exact H3.out, HC3.out, HA3.out⟩
/-- Write. -/
theorem write_calls (h : ConnIs N w k s vp) (hN : ∀ b, N b → b < w.heap.size) (hb : s.Ok) (hp : s.pack.length ≤ 700000) (A : Option Addr) (n c : Nat) (b : List UInt8) (hn : b.length = n) (hl : n ≤ 9223372036854775807) (hnc : n ≤ c) (hr : RB w A b) :
    Calls Try.prog 31 #[.pointer (some ⟨k, 0, none⟩), .slice A n c] w (Did N w k vp (s.write b).2 (.int .i64 ((s.write b).1 : Int))) := by
  by_cases hc : s.closed = true
  · refine (write_closed h hc A n c).mono ?_
    rintro e w1 ⟨rfl, rfl⟩
    unfold TS.write
    rw [if_pos hc]
    exact ⟨vp, rfl, h, Chg.refl _ _ _, After.refl _ _⟩
  · exact write_open h hN hb hp hc A n c b hn hl hnc hr
end
end Go.Proofs.Ytjhnnnklfhbebaa
namespace Go.Proofs.Ytjhnnnklfhbebaa
open Go.RowKit
set_option linter.unusedVariables false
set_option linter.unusedSimpArgs false
theorem OwnB.chg {S : Nat} {w w' : World} {v : Value} {l : List UInt8} {k : Nat} {vp : Value} (h : OwnB S 5 w v l) (hc : Chg k vp w w') (hk : ∀ b, v.ownBlock = some b → b ≠ k ∧ vp.ownBlock ≠ some b) : OwnB S 5 w' v l := by
  rcases h.2 with ⟨rfl, h0⟩ | ⟨g, cap, cur, rfl, hb, hh, hr⟩
  · exact ⟨h.1, .inl ⟨rfl, h0⟩⟩
  · refine ⟨h.1, .inr ⟨g, cap, cur, rfl, hb, ?_, hr⟩⟩
    obtain ⟨h1, h2⟩ := hk g rfl
    rw [hc.block g (Array.getElem?_eq_some_iff.1 hh).1 h1 h2]
    exact hh
/-- The blocks of others, and that of a slice that was handed out. -/
def Given (N : Nat → Prop) (v : Value) (b : Nat) : Prop := N b ∨ v.ownBlock = some b
/-- What Read leaves. -/
def DidRead (N : Nat → Prop) (w : World) (k : Nat) (vp : Value) (s' : TS) (l : List UInt8) (e : Ending) (w' : World) : Prop :=
  ∃ v vp', e = .returned v ∧ OwnB w.heap.size 5 w' v l ∧ ConnIs (Given N v) w' k s' vp' ∧ Chg k vp w w' ∧ After w vp vp' ∧ ∀ b, v.ownBlock = some b → vp'.ownBlock ≠ some b ∧ b < w'.heap.size
theorem ConnIs.row {N : Nat → Prop} {w : World} {k : Nat} {s : TS} {vp : Value} (h : ConnIs N w k s vp) {b : Nat} (hb : vp.ownBlock = some b) : ¬ N b ∧ b ≠ k ∧ b < w.heap.size := by
  have hl := h.lt.2 b hb
  obtain ⟨vo, vi, fe, eh, _, _, _, _, _, _, _, _, h9⟩ := h
  exact ⟨(h9 b hb).1, (h9 b hb).2, hl⟩
section
variable {N : Nat → Prop} {w : World} {k : Nat} {s : TS} {vp : Value}
set_option maxRecDepth 100000 in
set_option maxHeartbeats 2000000 in
theorem read_calls (h : ConnIs N w k s vp) (hN : ∀ b, N b → b < w.heap.size) (hb : s.Ok) (hp : s.pack.length ≤ 700000) (hg : s.got ≤ 1000000000000) (n : Int) :
    Calls Try.prog 33 #[.pointer (some ⟨k, 0, none⟩), .int .i64 n] w (DidRead N w k vp (s.read n).2 (s.read n).1) := by
  have HM := Lib.hid (made_calls w k s vp h)
  obtain ⟨st, hst⟩ : ∃ st, s.state = st := ⟨_, rfl⟩
  rw [hst] at HM
  by_cases h0 : st = 0
  · have HX : Hid (s.read n = ([], s)) := Lib.hid (by unfold TS.read; rw [if_pos (hst.trans h0)])
    have H := Lib.hid h
    subst h0
    clear hst h hN hb hp hg
    go_enter Try.func33, Try.ntmps33
    go_wp2_with fail
    refine HM.out.mono ?_
    rintro e w1 ⟨rfl, rfl⟩
    go_wp2_with fail
    go_ret
    exact ⟨_, vp, rfl, by rw [HX.out]; exact OwnB.nil _ _ _, by rw [HX.out]; exact H.out.weaken (fun b _ hb => hb.elim id (fun e => by cases e)), Chg.refl _ _ _, After.refl _ _, fun b e => by cases e⟩
  · have d0 : decide (st ≠ 0) = true := decide_eq_true h0
    rw [d0] at HM
    clear d0
    obtain ⟨m, hm⟩ : ∃ m, s.readN n = m := ⟨_, rfl⟩
    obtain ⟨i, hi⟩ : ∃ i, s.inn.length = i := ⟨_, rfl⟩
    have hinn := hb.inn
    rw [hi] at hinn
    have hmi : m ≤ i := by rw [← hm]; unfold TS.readN; rw [hi]; omega
    have hmd : (m : Int) = max 0 (min n (i : Int)) := by rw [← hm]; unfold TS.readN; rw [hi]; omega
    obtain ⟨s1, hs1⟩ : ∃ s1 : TS, { s with inn := s.inn.drop m, got := s.got + m } = s1 := ⟨_, rfl⟩
    have HX : Hid (s.read n = (s.inn.take m, if st = 3 ∧ s.window < 128 ∧ 128 ≤ s1.window then s1.ack else s1)) := Lib.hid (by
      subst hs1 hm hst
      unfold TS.read
      rw [if_neg h0])
    have HWN := Lib.hid (window_calls w k s vp h hb.inn)
    obtain ⟨A, c, c16, k1, k2, k3, k4⟩ := h.cellI
    rw [hi] at c16 k1
    have HMD := Lib.hid hmd
    have HS1 := Lib.hid hs1
    have HOK := Lib.hid hb
    have H := Lib.hid h
    have HN := Lib.hid hN
    have HST := Lib.hid hst
    have HIL := Lib.hid hi
    have K3 := Lib.hid k3
    have hkl := h.lt.1
    obtain ⟨wn, hwn⟩ : ∃ wn, s.window = wn := ⟨_, rfl⟩
    have hwnb : wn ≤ 1024 := by rw [← hwn]; unfold TS.window; omega
    rw [hwn] at HWN HX
    clear h hN hb hm hi hmd hs1 hst hwn k3 k4 h0
    go_enter Try.func33, Try.ntmps33
    go_wp2_with fail
    refine HM.out.mono ?_
    rintro e w1 ⟨rfl, rfl⟩
    go_wp2_with fail
    refine HWN.out.mono ?_
    rintro e w1 ⟨rfl, rfl⟩
    clear HM HWN
    go_upto_region 4 with fail
    go_cut [1] from 12 to 20 (fun v wc => v = .int .i64 (m : Int) ∧ w = wc)
    case first =>
      rcases Int.lt_or_le (i : Int) n with h1 | h1
      · rcases Int.lt_or_le 0 (i : Int) with h2 | h2
        · go_wp2_with fail
          go_meet
          case rel => exact ⟨by rw [HMD.out]; congr 1; omega, rfl⟩
        · go_wp2_with fail
          go_meet
          case rel => exact ⟨by rw [HMD.out]; congr 1; omega, rfl⟩
      · rcases Int.lt_or_le 0 n with h2 | h2
        · go_wp2_with fail
          go_meet
          case rel => exact ⟨by rw [HMD.out]; congr 1; omega, rfl⟩
        · go_wp2_with fail
          go_meet
          case rel => exact ⟨by rw [HMD.out]; congr 1; omega, rfl⟩
    case rest =>
      obtain ⟨rfl, rfl⟩ := hcut
      have hmc : (m : Int) ≤ (c : Int) := by omega
      have HCL : Hid (∀ (W : World) (A' : Option Addr) (n' c' : Nat) (l : List UInt8), l.length = n' → n' ≤ 100000 → RB W A' l → Calls Try.prog 64 #[.slice A' n' c'] W fun e w' => ∃ R d, e = .returned (.slice R n' d) ∧ n' ≤ d ∧ d ≤ maxLen ∧ OwnB W.heap.size 5 w' (.slice R n' d) l ∧ Below W.heap.size W w') := Lib.hid fun W A' n' c' l h1 h2 h3 => clone_k A' c' n' l h1 W h3 h2
      have HTL : Hid ((s.inn.take m).length = m) := Lib.hid (by rw [List.length_take, HIL.out]; omega)
      have HDL : Hid ((s.inn.drop m).length = i - m) := Lib.hid (by rw [List.length_drop, HIL.out])
      go_wp2_with fail
      refine (HCL.out w A m c (s.inn.take m) HTL.out (by omega) (K3.out.take m)).mono ?_
      rintro e w1 ⟨R, d, rfl, hd1, hd2, ho1, hb1⟩
      have HO1 := Lib.hid ho1
      have HB1 := Lib.hid hb1
      have c16 := (hb1.cell hkl).trans c16
      clear ho1 hb1
      have hRB : ∀ A', (A' = Option.map (fun x => x.add m) A ∨ i = m) → RB w1 A' (s.inn.drop m) := fun A' hA => by
        by_cases him : i = m
        · rw [List.eq_nil_of_length_eq_zero (by rw [HDL.out]; omega : (s.inn.drop m).length = 0)]
          exact RB.nil _ _
        · obtain ⟨b, o, e, _⟩ := K3.out.form (by rw [HIL.out]; omega)
          have hA := hA.resolve_right him
          rw [e] at hA
          have K3' := K3.out
          rw [e] at K3'
          rw [hA]
          show RB w1 (some (Addr.add ⟨b, o, none⟩ m)) _
          rw [add_pl]
          exact (K3'.drop m).ext HB1.out
      have HRB := Lib.hid hRB
      have hgv : ∀ b, (Value.slice R m d).ownBlock = some b → w.heap.size ≤ b ∧ b < w1.heap.size := fun b hb => World.ownsRow.lt HO1.out b hb
      have HGV := Lib.hid hgv
      have hc1 : ConnIs (Given N (.slice R m d)) w1 k s vp := (H.out.weaken (fun b hb hn => hn.elim id (fun e => by have := (hgv b e).1; omega))).ext HB1.out
      have HCN := Lib.hid hc1
      obtain ⟨g1, hg1⟩ : ∃ g1, s.got + m = g1 := ⟨_, rfl⟩
      have c2068 := H.out.cellT 3 (fun _ _ => rfl) 2068 rfl
      obtain ⟨gt, hgt⟩ : ∃ gt, s.got = gt := ⟨_, rfl⟩
      rw [hgt] at c2068 hg hg1
      have hwg : IntKind.i64.wrap ((gt : Int) + (m : Int)) = (g1 : Int) := by rw [IntWalk.i64_in _ (by omega)]; omega
      have HST1 : Hid (∀ (W : World) (v2 : Value), Below w1.heap.size w1 W → OwnB w1.heap.size 5 W v2 (s.inn.drop m) → ConnIs (Given N (.slice R m d)) ((W.setCell ⟨k, 16, none⟩ v2).setCell ⟨k, 2068, none⟩ (.int .i64 (g1 : Int))) k s1 vp ∧ Chg k vp w ((W.setCell ⟨k, 16, none⟩ v2).setCell ⟨k, 2068, none⟩ (.int .i64 (g1 : Int))) ∧ OwnB w.heap.size 5 ((W.setCell ⟨k, 16, none⟩ v2).setCell ⟨k, 2068, none⟩ (.int .i64 (g1 : Int))) (.slice R m d) (s.inn.take m) ∧ w1.heap.size ≤ ((W.setCell ⟨k, 16, none⟩ v2).setCell ⟨k, 2068, none⟩ (.int .i64 (g1 : Int))).heap.size) := Lib.hid fun W v2 hB hO => by
        have hlt := H.out.lt
        have h1 := (hc1.ext hB).setI { s with inn := s.inn.drop m } v2 (SlN.of_own hO (fun b hb => by
          have := HB1.out.size
          rcases hb with (hb | hb) | hb | hb
          · have := HN.out b hb; omega
          · exact (hgv b hb).2
          · omega
          · have := hlt.2 b hb; omega)) (fun _ _ => rfl) (fun _ _ => rfl) rfl rfl rfl (fun e => ⟨e, rfl⟩)
        have h2 := h1.setT s1 3 2068 rfl (.int .i64 (g1 : Int)) (fun _ _ => by rw [← HS1.out]; rfl) (fun _ _ => by rw [← HS1.out, ← hg1, ← hgt]; rfl) (by rw [← HS1.out]) (by rw [← HS1.out]) (by rw [← HS1.out]) (by rw [← HS1.out]) (fun e => by rw [← HS1.out] at e ⊢; exact ⟨e, rfl⟩)
        have c1 : Chg k vp w W := (Chg.below HB1.out).trans (Chg.below hB) (After.refl _ _)
        have c2 : Chg k vp W ((W.setCell ⟨k, 16, none⟩ v2).setCell ⟨k, 2068, none⟩ (.int .i64 (g1 : Int))) := (Chg.grown (grown_setCell _ _ _ _) (.inl rfl)).trans (Chg.grown (grown_setCell _ _ _ _) (.inl rfl)) (After.refl _ _)
        refine ⟨h2, c1.trans c2 (After.refl _ _), (HO1.out.ext hB).chg c2 (fun b hb => ⟨fun e => ?_, fun e => ?_⟩), Nat.le_trans hB.size c2.size⟩
        · have := (hgv b hb).1
          omega
        · have := (hgv b hb).1
          have := hlt.2 b e
          omega
      clear hRB hgv hc1 hg1 hgt hg
      go_wp2_with fail
      all_goals
        refine (HCL.out w1 _ (i - m) _ (s.inn.drop m) HDL.out (by omega) (HRB.out _ (by first | exact .inl rfl | exact .inr (by omega)))).mono ?_
        rintro e w2 ⟨R2, d2, rfl, hd3, hd4, ho2, hb2⟩
        have HS2 := Lib.hid (HST1.out w2 _ hb2 ho2)
        have c16 := (hb2.cell (World.block_lt_of_cell? _ _ c16)).trans c16
        have hb12 : Below w.heap.size w w2 := HB1.out.trans (hb2.mono HB1.out.size)
        have c2068 := (hb12.cell hkl).trans c2068
        have f16 := (H.out.ext hb12).frozen 16
        have f2068 := (H.out.ext hb12).frozen 2068
        have hkl2 : k < w2.heap.size := Nat.lt_of_lt_of_le hkl hb12.size
        clear ho2 hb2 hb12
        go_upto_region 8 with fail
        refine name_world (fun W => ConnIs (Given N (.slice R m d)) W k s1 vp ∧ Chg k vp w W ∧ OwnB w.heap.size 5 W (.slice R m d) (s.inn.take m) ∧ w1.heap.size ≤ W.heap.size) HS2.out ?_
        rintro w5 ⟨h5, hc5, ho5, hz5⟩
        have c2069 := h5.cellT 4 (fun _ _ => rfl) 2069 rfl
        rw [show s1.state = st by rw [← HS1.out]; exact HST.out] at c2069
        have hin1 : s1.inn.length ≤ 1024 := by rw [← HS1.out]; show (s.inn.drop m).length ≤ 1024; rw [HDL.out]; omega
        have HWN1 := Lib.hid (window_calls w5 k s1 vp h5 hin1)
        have hbd : s1.Bd := by rw [← HS1.out]; exact ⟨by show (s.inn.drop m).length ≤ 1024; rw [HDL.out]; omega, HOK.out.out, by show s.pack.length ≤ 900000; omega, HOK.out.irs, HOK.out.iss⟩
        have HN5 : Hid (∀ b, Given N (.slice R m d) b → b < w5.heap.size) := Lib.hid fun b hb => hb.elim (fun e => Nat.lt_of_lt_of_le (HN.out b e) hc5.size) (fun e => Nat.lt_of_lt_of_le (HGV.out b e).2 hz5)
        have HAK := Lib.hid (ack_calls h5 HN5.out hbd)
        have H5 := Lib.hid h5
        have HC5 := Lib.hid hc5
        have HO5 := Lib.hid ho5
        obtain ⟨wn1, hwn1⟩ : ∃ wn1, s1.window = wn1 := ⟨_, rfl⟩
        rw [hwn1] at HWN1
        have HWW := Lib.hid hwn1
        clear h5 hc5 ho5 hbd hin1 HS2 HST1 HCL hwn1 c16 c2068
        by_cases h3 : st = 3
        · subst h3
          by_cases h128 : wn < 128
          · by_cases h129 : 128 ≤ wn1
            · have HY : Hid ((if (3 : Nat) = 3 ∧ wn < 128 ∧ 128 ≤ s1.window then s1.ack else s1) = s1.ack) := Lib.hid (if_pos ⟨rfl, h128, by rw [HWW.out]; exact h129⟩)
              go_wp2_with fail
              refine HWN1.out.mono ?_
              rintro e w6 ⟨rfl, rfl⟩
              go_wp2_with fail
              refine HAK.out.mono ?_
              rintro e6 w6 ⟨vp6, rfl, h6, hc6, ha6⟩
              have H6 := Lib.hid h6
              have HC6 : Hid (Chg k vp w w6) := Lib.hid (HC5.out.trans hc6 (After.refl _ _))
              have HA6 : Hid (After w vp vp6) := Lib.hid (ha6.earlier HC5.out.size)
              have HO6 : Hid (OwnB w.heap.size 5 w6 (.slice R m d) (s.inn.take m)) := Lib.hid (HO5.out.chg hc6 (fun b hb => ⟨fun e => by have := (HGV.out b hb).1; omega, fun e => by have := (HGV.out b hb).1; have := (H.out.row e).2.2; omega⟩))
              have hz6 := Nat.le_trans hz5 hc6.size
              clear h6 hc6 ha6
              go_wp2_with fail
              go_ret
              exact ⟨_, vp6, rfl, by rw [HX.out]; exact HO6.out, by rw [HX.out, HY.out]; exact H6.out, HC6.out, HA6.out, fun b hb => ⟨fun e => (H6.out.row e).1 (.inr hb), Nat.lt_of_lt_of_le (HGV.out b hb).2 (hz6)⟩⟩
            · have HY : Hid ((if (3 : Nat) = 3 ∧ wn < 128 ∧ 128 ≤ s1.window then s1.ack else s1) = s1) := Lib.hid (if_neg (fun h => h129 (by rw [← HWW.out]; exact h.2.2)))
              go_wp2_with fail
              refine HWN1.out.mono ?_
              rintro e w6 ⟨rfl, rfl⟩
              go_wp2_with fail
              go_ret
              exact ⟨_, vp, rfl, by rw [HX.out]; exact HO5.out, by rw [HX.out, HY.out]; exact H5.out, HC5.out, After.refl _ _, fun b hb => ⟨fun e => (H5.out.row e).1 (.inr hb), Nat.lt_of_lt_of_le (HGV.out b hb).2 (hz5)⟩⟩
          · have HY : Hid ((if (3 : Nat) = 3 ∧ wn < 128 ∧ 128 ≤ s1.window then s1.ack else s1) = s1) := Lib.hid (if_neg (fun h => h128 h.2.1))
            go_wp2_with fail
            go_ret
            exact ⟨_, vp, rfl, by rw [HX.out]; exact HO5.out, by rw [HX.out, HY.out]; exact H5.out, HC5.out, After.refl _ _, fun b hb => ⟨fun e => (H5.out.row e).1 (.inr hb), Nat.lt_of_lt_of_le (HGV.out b hb).2 (hz5)⟩⟩
        · have HY : Hid ((if st = 3 ∧ wn < 128 ∧ 128 ≤ s1.window then s1.ack else s1) = s1) := Lib.hid (if_neg (fun h => h3 h.1))
          have e3 : ((st : Int) == 3) = false := beq_eq_false_iff_ne.2 (by omega)
          go_wp2_with fail
          go_ret
          exact ⟨_, vp, rfl, by rw [HX.out]; exact HO5.out, by rw [HX.out, HY.out]; exact H5.out, HC5.out, After.refl _ _, fun b hb => ⟨fun e => (H5.out.row e).1 (.inr hb), Nat.lt_of_lt_of_le (HGV.out b hb).2 (hz5)⟩⟩
end
end Go.Proofs.Ytjhnnnklfhbebaa
