/- tcp: packets in a row read; hand: the walk. tcp: awake: its states (plain). tcp: awake: the walk. -/
import Derived.Test.YtjhnnnklfhbebaaTg
import Derived.Test.YtjhnnnklfhbebaaBytesEq
import Derived.Lib.SlBytesConst
namespace Go.Proofs.Ytjhnnnklfhbebaa
open Go.RowKit
set_option linter.unusedVariables false
set_option linter.unusedSimpArgs false
section
variable {N : Nat → Prop} {w w' : World}
theorem PkRow.get : ∀ {ps : List Pk} {xs : List Value} (m : Nat) (p : Pk), PkRow N w ps xs → ps[m]? = some p → ∃ A c, (∀ i, i < 11 → xs[m * 11 + i]? = (p.cs A p.data.length c)[i]?) ∧ SlN N w (.slice A p.data.length c) p.data ∧ TS.PkIn p
  | [], _, m, p, _, hm => by cases hm
  | q :: r, _, 0, p, ⟨A, c, ys, e1, h1, h2, h3, h4⟩, hm => by
    cases hm
    refine ⟨A, c, fun i hi => ?_, h1, h2, h3⟩
    rw [e1, List.getElem?_append_left (by simp [Pk.cs]; omega), Nat.zero_mul, Nat.zero_add]
  | q :: r, _, m + 1, p, ⟨A, c, ys, e1, h1, h2, h3, h4⟩, hm => by
    obtain ⟨A2, c2, k1, k2⟩ := PkRow.get m p h4 hm
    refine ⟨A2, c2, fun i hi => ?_, k2⟩
    have hl : (q.cs A q.data.length c).length = 11 := rfl
    rw [e1, List.getElem?_append_right (by omega), hl, show (m + 1) * 11 + i - 11 = m * 11 + i by omega]
    exact k1 i hi
theorem SlN.out {A : Option Addr} {n c : Nat} {l : List UInt8} (h : SlN N w (.slice A n c) l) : n = l.length ∧ n ≤ c ∧ c ≤ maxLen ∧ RB w A l ∧ (0 < l.length → ∀ b o, A = some ⟨b, o, none⟩ → ¬ N b) := by
  obtain ⟨A', c', e, h1, h2, h3, h4⟩ := h
  injection e with e1 e2 e3
  subst e1 e2 e3
  exact ⟨rfl, h1, h2, h3, h4⟩
/-- The m-th packet of a row, as cells. -/
structure PkAt (N : Nat → Prop) (w : World) (v : Value) (g m : Nat) (p : Pk) (A : Option Addr) (n c : Nat) : Prop where
  c0 : w.cell? ⟨g, m * 11, none⟩ = some (.int .i64 p.src)
  c1 : w.cell? ⟨g, m * 11 + 1, none⟩ = some (.int .i64 p.dst)
  c2 : w.cell? ⟨g, m * 11 + 2, none⟩ = some (.int .i64 p.sp)
  c3 : w.cell? ⟨g, m * 11 + 3, none⟩ = some (.int .i64 p.dp)
  c4 : w.cell? ⟨g, m * 11 + 4, none⟩ = some (.int .u32 (p.seq : Int))
  c5 : w.cell? ⟨g, m * 11 + 5, none⟩ = some (.int .u32 (p.ack : Int))
  c6 : w.cell? ⟨g, m * 11 + 6, none⟩ = some (.int .i64 p.fl)
  c7 : w.cell? ⟨g, m * 11 + 7, none⟩ = some (.int .i64 p.wn)
  c8 : w.cell? ⟨g, m * 11 + 8, none⟩ = some (.int .i64 p.pr)
  c9 : w.cell? ⟨g, m * 11 + 9, none⟩ = some (.int .i64 p.og)
  c10 : w.cell? ⟨g, m * 11 + 10, none⟩ = some (.slice A n c)
  len : p.data.length = n
  cap : n ≤ c
  cmax : c ≤ maxLen
  rb : RB w A p.data
  off : 0 < n → ∀ b o, A = some ⟨b, o, none⟩ → ¬ N b ∧ v.ownBlock ≠ some b
  inn : TS.PkIn p
theorem row_at {v : Value} {ps : List Pk} (h : (Item.row v ps).is N w) {g n cap m : Nat} (hv : v = .slice (some ⟨g, 0, none⟩) n cap) {p : Pk} (hm : ps[m]? = some p) : ∃ A n c, PkAt N w v g m p A n c := by
  obtain ⟨⟨xs, h1, h2⟩, h3⟩ := h
  obtain ⟨A, c, k1, k2, k3⟩ := PkRow.get m p h2 hm
  have hc : ∀ i u, i < 11 → (p.cs A p.data.length c)[i]? = some u → w.cell? ⟨g, m * 11 + i, none⟩ = some u := fun i u hi hu => by
    have := h1.cells (g := g) (by rw [hv]; rfl) (m * 11 + i) u ((k1 i hi).trans hu)
    rw [add_pl, Nat.zero_add] at this
    exact this
  obtain ⟨_, k4, k5, k6, k7⟩ := k2.out
  exact ⟨A, p.data.length, c, hc 0 _ (by omega) rfl, hc 1 _ (by omega) rfl, hc 2 _ (by omega) rfl, hc 3 _ (by omega) rfl, hc 4 _ (by omega) rfl, hc 5 _ (by omega) rfl, hc 6 _ (by omega) rfl, hc 7 _ (by omega) rfl, hc 8 _ (by omega) rfl, hc 9 _ (by omega) rfl, hc 10 _ (by omega) rfl, rfl, k4, k5, k6, fun h0 b o e => ⟨fun hn => k7 h0 b o e (.inl hn), fun hn => k7 h0 b o e (.inr hn)⟩, k3⟩
theorem row_form {v : Value} {ps : List Pk} (h : (Item.row v ps).is N w) : (v = .slice none 0 0 ∧ ps = []) ∨ ∃ g cap, v = .slice (some ⟨g, 0, none⟩) ps.length cap ∧ ps.length ≤ cap ∧ cap ≤ maxLen := by
  obtain ⟨⟨xs, ⟨hx, h1⟩, h2⟩, h3⟩ := h
  rcases h1 with ⟨e, e2⟩ | ⟨g, cap, cur, e, _, _, h4, h5, _⟩
  · exact .inl ⟨e, List.eq_nil_of_length_eq_zero e2⟩
  · exact .inr ⟨g, cap, e, h4, h5⟩
end
theorem row_form' {N : Nat → Prop} {w : World} {v : Value} {ps : List Pk} (h : (Item.row v ps).is N w) : ∃ A cap, v = .slice A ps.length cap ∧ ps.length ≤ cap ∧ cap ≤ maxLen ∧ (0 < ps.length → ∃ g, A = some ⟨g, 0, none⟩) := by
  rcases row_form h with ⟨rfl, rfl⟩ | ⟨g, cap, rfl, h1, h2⟩
  · exact ⟨none, 0, rfl, Nat.le_refl _, Nat.zero_le _, fun h => absurd h (by decide)⟩
  · exact ⟨some ⟨g, 0, none⟩, cap, rfl, h1, h2, fun _ => ⟨g, rfl⟩⟩
theorem set_snoc {l : List Item} {j : Nat} {I I' K : Item} (hj : l[j]? = some I) : (l ++ [K]).set j I' = l.set j I' ++ [K] := List.set_append_left _ _ (List.getElem?_eq_some_iff.1 hj).1
theorem set_set_ne {l : List Item} {i j : Nat} {I J : Item} (h : i ≠ j) : (l.set i I).set j J = (l.set j J).set i I := List.set_comm _ _ h
theorem get_last {l : List Item} {K : Item} : (l ++ [K])[l.length]? = some K := by rw [List.getElem?_append_right (Nat.le_refl _), Nat.sub_self]; rfl
def TS.takeAll (s : TS) (ps : List Pk) : TS := ps.foldl TS.take s
theorem took_all : ∀ (ps : List Pk) (s : TS), s.Ok → s.Qu → (∀ p ∈ ps, TS.PkIn p) → (s.takeAll ps).Ok ∧ (s.takeAll ps).Qu ∧ (s.takeAll ps).pack.length ≤ s.pack.length + 1100 * ps.length ∧ (s.takeAll ps).sent + (s.takeAll ps).out.length ≤ s.sent + s.out.length ∧ (s.takeAll ps).got = s.got
  | [], s, h, hq, _ => ⟨h, hq, Nat.le_add_right _ _, Nat.le_refl _, rfl⟩
  | p :: r, s, h, hq, hp => by
    have t := took_take h hq (hp p (.head _))
    obtain ⟨k1, k2, k3, k4, k5⟩ := took_all r (s.take p) t.ok t.qu (fun q hm => hp q (.tail _ hm))
    refine ⟨k1, k2, ?_, Nat.le_trans k4 t.sent, k5.trans t.got⟩
    obtain ⟨ps, e, hl⟩ := t.pre
    have e2 : (s.take p).pack.length = s.pack.length + ps.length := by rw [e, List.length_append]
    have : ((s.take p).takeAll r).pack.length ≤ (s.take p).pack.length + 1100 * r.length := k3
    show ((s.take p).takeAll r).pack.length ≤ _
    rw [List.length_cons]
    omega
theorem row_in {N : Nat → Prop} {w : World} {v : Value} {ps : List Pk} (h : (Item.row v ps).is N w) : ∀ p ∈ ps, TS.PkIn p := fun p hp => by
  obtain ⟨⟨xs, h1, h2⟩, h3⟩ := h
  obtain ⟨m, hm⟩ := List.mem_iff_getElem?.1 hp
  obtain ⟨A, c, k1, k2, k3⟩ := PkRow.get m p h2 hm
  exact k3
section
variable {N : Nat → Prop} {l : List Item} {w : World} {i j : Nat} {s t : TS} {va vb : Value} {ka kb : Option Nat}
set_option maxRecDepth 100000 in
set_option maxHeartbeats 2000000 in
theorem hand_calls (h : All N l w) (hij : i ≠ j) (hi : l[i]? = some (Item.side ka s va)) (hj : l[j]? = some (Item.side kb t vb)) (hb : t.Ok) (hq : t.Qu) (hp : t.pack.length + 1100 * s.pack.length ≤ 600000) (hsn : t.sent + t.out.length ≤ 1000000000000) :
    Calls Try.prog 40 #[ptr ka, ptr kb] w fun e w' => e = .returned (.tuple #[]) ∧ Only (anyOwn l) w w' ∧ ∃ va' vb', All N ((l.set i (Item.side ka s.outp.2 va')).set j (Item.side kb (t.takeAll s.outp.1) vb')) w' := by
  have H := Lib.hid h
  have HOU := Lib.hid (side_out h hi)
  obtain ⟨pa, hpa⟩ : ∃ pa, ptr ka = pa := ⟨_, rfl⟩
  obtain ⟨pb, hpb⟩ : ∃ pb, ptr kb = pb := ⟨_, rfl⟩
  rw [hpa] at HOU ⊢
  rw [hpb]
  clear h
  go_enter Try.func40, Try.ntmps40
  go_wp2_with fail
  refine HOU.out.mono ?_
  rintro e w1 ⟨ho, v, va', rfl, h1, h2, _⟩
  obtain ⟨ps, hps⟩ : ∃ ps, s.outp.1 = ps := ⟨_, rfl⟩
  have hpl : ps.length ≤ s.pack.length := by
    rw [← hps]
    unfold TS.outp
    split
    · exact Nat.zero_le _
    · exact Nat.le_refl _
  obtain ⟨L1, hL1⟩ : ∃ L1, l.set i (Item.side ka s.outp.2 va') = L1 := ⟨_, rfl⟩
  have hj1 : L1[j]? = some (Item.side kb t vb) := by rw [← hL1, getElem?_set_ne _ (fun e => hij e.symm)]; exact hj
  rw [hps, hL1] at h1
  have hrow := h1.get _ get_last
  obtain ⟨A, cap, rfl, hcap, hmax, hA⟩ := row_form' hrow
  obtain ⟨n, hn⟩ : ∃ n, ps.length = n := ⟨_, rfl⟩
  have hin := row_in hrow
  rw [hn] at h1 hcap hA hpl ⊢
  have HIN := Lib.hid hin
  have hn6 : n ≤ 600000 := by omega
  have HINV : Hid (Only (anyOwn l) w w1 ∧ ∃ vb', All N (L1.set j (Item.side kb (t.takeAll (ps.take 0)) vb') ++ [Item.row (.slice A n cap) ps]) w1 ∧ ∀ b, (Item.side kb (t.takeAll (ps.take 0)) vb').own b → (Item.side kb t vb).own b ∨ w.heap.size ≤ b) := Lib.hid ⟨ho.wide fun b _ hb => ⟨i, _, hi, hb⟩, vb, by
    rw [List.take_zero]
    show All N (L1.set j (Item.side kb t vb) ++ _) w1
    rw [set_same hj1]
    exact h1, fun b hb => .inl hb⟩
  have HN := Lib.hid hn
  have HJ1 := Lib.hid hj1
  have HL1 := Lib.hid hL1
  have HPS := Lib.hid hps
  have HHI := Lib.hid hi
  have HHJ := Lib.hid hj
  have HB := Lib.hid hb
  have HQ := Lib.hid hq
  have HP := Lib.hid hp
  have HSN := Lib.hid hsn
  have HPL := Lib.hid hpl
  clear hrow hin hn hj1 hL1 hps hi hj hb hq hp hsn ho h1 h2 HOU hpl
  go_wp2_with fail
  go_loopg [9] n (fun gk v wr => ∃ m : Nat, v = .int .i64 (m : Int) ∧ m + gk = n ∧ Hid (Only (anyOwn l) w wr ∧ ∃ vb', All N (L1.set j (Item.side kb (t.takeAll (ps.take m)) vb') ++ [Item.row (.slice A n cap) ps]) wr ∧ ∀ b, (Item.side kb (t.takeAll (ps.take m)) vb').own b → (Item.side kb t vb).own b ∨ w.heap.size ≤ b))
  case atStart => exact ⟨0, rfl, by omega, HINV⟩
  case round =>
    obtain ⟨m, rfl, hmg, hinv⟩ := hrel
    have HI2 := hinv
    obtain ⟨hon, vb2, h2, hv2⟩ := hinv.out
    by_cases hm : m < n
    · have hmi : (m : Int) < (n : Int) := by omega
      have hwm : IntKind.i64.wrap ((m : Int) + 1) = ((m + 1 : Nat) : Int) := by rw [IntWalk.i64_in _ (by omega)]; omega
      obtain ⟨g, rfl⟩ := hA (by omega)
      have hmp : m < ps.length := by rw [HN.out]; exact hm
      obtain ⟨p, hp⟩ : ∃ p, ps[m]? = some p := ⟨_, List.getElem?_eq_getElem hmp⟩
      obtain ⟨tm, htm⟩ : ∃ tm, t.takeAll (ps.take m) = tm := ⟨_, rfl⟩
      have hT : t.takeAll (ps.take (m + 1)) = tm.take p := by
        rw [← htm, List.take_add_one, hp]
        show (ps.take m ++ [p]).foldl TS.take t = _
        rw [List.foldl_append]
        rfl
      have hok := took_all (ps.take m) t HB.out HQ.out (fun q hq => HIN.out q (List.mem_of_mem_take hq))
      rw [htm] at hok h2 hv2
      obtain ⟨B, pn, pc, hat⟩ := row_at (h2.get _ get_last) rfl hp
      have HAT := Lib.hid hat
      obtain ⟨k1, k2, k3, k4, k5⟩ := hok
      have hlm : (ps.take m).length ≤ n := by rw [List.length_take, HN.out]; omega
      have hpk : tm.pack.length ≤ 600000 := by have := HP.out; have := HPL.out; omega
      have hsn : tm.sent ≤ 1000000000000 := by have := HSN.out; omega
      have hjm : (L1.set j (Item.side kb tm vb2) ++ [Item.row (.slice (some ⟨g, 0, none⟩) n cap) ps])[j]? = some (Item.side kb tm vb2) := get_snoc_lt (getElem?_set_at _ HJ1.out)
      have HST : Hid (∀ W : World, Below wr.heap.size wr W → Calls Try.prog 17 #[pb, .agg (p.cs B pn pc).toArray] W fun e w' => e = .returned (.tuple #[]) ∧ Only (anyOwn l) w w' ∧ ∃ vb', All N (L1.set j (Item.side kb (t.takeAll (ps.take (m + 1))) vb') ++ [Item.row (.slice (some ⟨g, 0, none⟩) n cap) ps]) w' ∧ ∀ b, (Item.side kb (t.takeAll (ps.take (m + 1))) vb').own b → (Item.side kb t vb).own b ∨ w.heap.size ≤ b) := Lib.hid fun W hW => by
        have h3 := h2.ext hW
        rw [hT, ← hpb]
        refine (side_take h3 hjm k1 k2 hpk hsn p B pn pc HAT.out.len HAT.out.cap HAT.out.inn (HAT.out.rb.ext hW) (fun h0 b o e hb => ?_)).mono ?_
        · refine (HAT.out.off h0 b o e).1 (.inr ⟨j, _, fun e => ?_, hjm, hb⟩)
          rw [List.length_set] at e
          have := (List.getElem?_eq_some_iff.1 HJ1.out).1
          omega
        · rintro e w' ⟨rfl, ho, vb', ha, hv⟩
          rw [set_snoc (getElem?_set_at _ HJ1.out), List.set_set] at ha
          have hown : ∀ b, (Item.side kb tm vb2).own b → anyOwn l b ∨ w.heap.size ≤ b := fun b hb => (hv2 b hb).imp (fun e => ⟨j, _, HHJ.out, e⟩) id
          refine ⟨rfl, ((hon.trans (Only.of_below hW) (fun b hb => hb)).trans ho hown), vb', ha, fun b hb => ?_⟩
          rcases hv b hb with e | e
          · exact hv2 b e
          · exact .inr (Nat.le_trans hon.size (Nat.le_trans hW.size e))
      obtain ⟨q0, q1, q2, q3, q4, q5, q6, q7, q8, q9, q10⟩ : wr.cell? ⟨g, m * 11, none⟩ = some (.int .i64 p.src) ∧ wr.cell? ⟨g, m * 11 + 1, none⟩ = some (.int .i64 p.dst) ∧ wr.cell? ⟨g, m * 11 + 2, none⟩ = some (.int .i64 p.sp) ∧ wr.cell? ⟨g, m * 11 + 3, none⟩ = some (.int .i64 p.dp) ∧ wr.cell? ⟨g, m * 11 + 4, none⟩ = some (.int .u32 (p.seq : Int)) ∧ wr.cell? ⟨g, m * 11 + 5, none⟩ = some (.int .u32 (p.ack : Int)) ∧ wr.cell? ⟨g, m * 11 + 6, none⟩ = some (.int .i64 p.fl) ∧ wr.cell? ⟨g, m * 11 + 7, none⟩ = some (.int .i64 p.wn) ∧ wr.cell? ⟨g, m * 11 + 8, none⟩ = some (.int .i64 p.pr) ∧ wr.cell? ⟨g, m * 11 + 9, none⟩ = some (.int .i64 p.og) ∧ wr.cell? ⟨g, m * 11 + 10, none⟩ = some (.slice B pn pc) := ⟨hat.c0, hat.c1, hat.c2, hat.c3, hat.c4, hat.c5, hat.c6, hat.c7, hat.c8, hat.c9, hat.c10⟩
      clear hat HAT hT htm k1 k2 k3 k4 k5 hlm hpk hsn hjm h2 hv2 hon hinv hp HI2
      simp only [Pk.cs] at HST
      go_wp2_with fail
      refine (HST.out _ (ext_alloc _ _)).mono ?_
      rintro e w9 ⟨rfl, hinv9⟩
      have HI9 := Lib.hid hinv9
      clear hinv9 HST q0 q1 q2 q3 q4 q5 q6 q7 q8 q9 q10
      go_wp2_with fail
      go_roundg (gk - 1)
      case measure => omega
      case rel => exact ⟨m + 1, by first | rfl | (congr 1), by omega, HI9⟩
    · obtain rfl : m = n := by omega
      clear hinv hon h2 hv2
      go_wp2_with fail
      go_end0
      obtain ⟨hon, vb2, h2, hv2⟩ := HI2.out
      rw [List.take_of_length_le (Nat.le_of_eq HN.out), ← HPS.out, ← HL1.out] at h2
      exact ⟨rfl, hon, va', vb2, h2.pop⟩
end
end Go.Proofs.Ytjhnnnklfhbebaa
namespace Go.Proofs.Ytjhnnnklfhbebaa
open Go.RowKit
set_option linter.unusedVariables false
namespace Aw
def a0 : TS := (({ TS.zero with src := 1, dst := 2, sp := 1000, dp := 80, og := 0, state := 1 } : TS).start 4294967294).syn
def p0 : Pk := ⟨1, 2, 1000, 80, 4294967294, 0, 1, 1024, 0, 0, []⟩
def a1 : TS := a0.outp.2
def b0 : TS := ({ ({ TS.zero with src := 2, dst := 1, sp := 80, dp := 1000, state := 2 } : TS).start 100 with irs := 4294967294, rcv := 1, wnd := 1024 } : TS).syn
def b1 : TS := b0.outp.2
def a2 : TS := a1.takeAll b0.outp.1
def a3 : TS := a2.outp.2
def b2 : TS := b1.takeAll a2.outp.1
def abc : List UInt8 := [97, 98, 99]
def a4 : TS := (a3.write abc).2
def a5 : TS := a4.outp.2
def b3 : TS := b2.takeAll a4.outp.1
def b4 : TS := b3.outp.2
def a6 : TS := a5.takeAll b3.outp.1
def a7 : TS := a6.close
def a8 : TS := a7.outp.2
def b5 : TS := b4.takeAll a7.outp.1
def b6 : TS := (b5.read 9).2
theorem dial_eq : TS.dial 1 1000 2 80 0 4294967294 = some a0 := by
  unfold TS.dial
  rw [if_neg (by decide +kernel)]
  rfl
theorem acc_eq : TS.accept p0 100 = some b0 := by
  unfold TS.accept
  rw [if_neg (by decide +kernel)]
  rfl
theorem acc_none : TS.accept Pk.zero 1 = none := by
  unfold TS.accept
  rw [if_pos (by decide +kernel)]
theorem out_eq : a0.outp.1 = [p0] := rfl
theorem n_eq : (a3.write abc).1 = 3 := by decide +kernel
theorem x_eq : (b5.read 9).1 = abc := by decide +kernel
theorem st_eq : a8.state = 3 := by decide +kernel
theorem sent_eq : a8.sent = 3 := by decide +kernel
theorem fin_eq : b6.fin = true := by decide +kernel
theorem b6_st : b6.state ≠ 0 := by decide +kernel
theorem la0 : a0.pack.length ≤ 5 := by decide +kernel
theorem lb0 : b0.pack.length ≤ 5 := by decide +kernel
theorem la1 : a1.pack.length ≤ 5 := by decide +kernel
theorem lb1 : b1.pack.length ≤ 5 := by decide +kernel
theorem la2 : a2.pack.length ≤ 5 := by decide +kernel
theorem la3 : a3.pack.length ≤ 5 := by decide +kernel
theorem lb2 : b2.pack.length ≤ 5 := by decide +kernel
theorem la4 : a4.pack.length ≤ 5 := by decide +kernel
theorem la5 : a5.pack.length ≤ 5 := by decide +kernel
theorem lb3 : b3.pack.length ≤ 5 := by decide +kernel
theorem lb4 : b4.pack.length ≤ 5 := by decide +kernel
theorem la6 : a6.pack.length ≤ 5 := by decide +kernel
theorem la7 : a7.pack.length ≤ 5 := by decide +kernel
theorem lb5 : b5.pack.length ≤ 5 := by decide +kernel
theorem fine_all {s : TS} {m : Nat} (h : s.Fine m) {ps : List Pk} (hp : ps.all (fun p => decide (p.seq < 4294967296) && decide (p.ack < 4294967296)) = true) : (s.takeAll ps).Fine m := by
  obtain ⟨k1, k2, k3, k4, k5⟩ := took_all ps s h.ok h.qu fun p hm => by
    have := List.all_eq_true.1 hp p hm
    simp only [Bool.and_eq_true, decide_eq_true_eq] at this
    exact ⟨this.1, this.2⟩
  exact ⟨k1, k2, Nat.le_trans k4 h.sent, by rw [k5]; exact h.got⟩
theorem fa0 : a0.Fine 0 := (TS.dial_fine (by decide) dial_eq).1
theorem fb0 : b0.Fine 0 := (TS.accept_fine ⟨by decide, by decide⟩ (by decide) acc_eq).1
theorem fa1 : a1.Fine 0 := fa0.outp
theorem fb1 : b1.Fine 0 := fb0.outp
theorem fa2 : a2.Fine 0 := fine_all fa1 (by decide +kernel)
theorem fa3 : a3.Fine 0 := fa2.outp
theorem fb2 : b2.Fine 0 := fine_all fb1 (by decide +kernel)
theorem fa4 : a4.Fine 1 := fa3.went (TS.went_write fa3.ok fa3.qu _)
theorem fa5 : a5.Fine 1 := fa4.outp
theorem fb3 : b3.Fine 0 := fine_all fb2 (by decide +kernel)
theorem fb4 : b4.Fine 0 := fb3.outp
theorem fa6 : a6.Fine 1 := fine_all fa5 (by decide +kernel)
theorem fa7 : a7.Fine 2 := fa6.went (TS.went_close fa6.ok fa6.qu)
theorem fa8 : a8.Fine 2 := fa7.outp
theorem fb5 : b5.Fine 0 := fine_all fb4 (by decide +kernel)
end Aw
end Go.Proofs.Ytjhnnnklfhbebaa
namespace Go.Proofs.Ytjhnnnklfhbebaa
open Go.RowKit
set_option linter.unusedVariables false
set_option linter.unusedSimpArgs false
theorem only_below {l : List Item} {w w' w0 : World} (h : All (fun b => b < w0.heap.size) l w) (hb : Below w0.heap.size w0 w) (ho : Only (anyOwn l) w w') : Below w0.heap.size w0 w' :=
  ho.below hb hb.size fun b hb => Nat.le_of_not_lt (h.own_no b hb)
theorem own_any {l : List Item} {j : Nat} {I : Item} (hj : l[j]? = some I) {w w' : World} (h : Only I.own w w') : Only (anyOwn l) w w' := h.wide fun b _ hb => ⟨j, I, hj, hb⟩
/-- Things in memory that a call has made. -/
def Made (w0 : World) (l : List Item) (w : World) : Prop := All (fun b => b < w0.heap.size) l w ∧ Below w0.heap.size w0 w
section
variable {w0 w w' : World} {l : List Item}
theorem Made.start (w0 : World) : Made w0 [] w0 := ⟨All.nil fun b hb => hb, Below.refl _ _⟩
theorem Made.ext (h : Made w0 l w) (hb : Below w.heap.size w w') : Made w0 l w' := ⟨h.1.ext hb, h.2.trans (hb.mono h.2.size)⟩
theorem Made.dial (h : Made w0 l w) (src sp dst dp og : Int) (iss : Nat) (hi : iss < 4294967296) {s : TS} (hs : TS.dial src sp dst dp og iss = some s) :
    Calls Try.prog 15 #[.int .i64 src, .int .i64 sp, .int .i64 dst, .int .i64 dp, .int .i64 og, .int .u32 (iss : Int)] w fun e w' => ∃ k vp, e = .returned (ptr (some k)) ∧ Made w0 (l ++ [Item.side (some k) s vp]) w' := by
  refine (all_dial h.1 src sp dst dp og iss hi).mono ?_
  rintro e w' ⟨hb, kb, vp, rfl, ha, _, hn⟩
  cases kb with
  | none => rw [hs] at hn; exact absurd (hn.1 rfl) (by simp)
  | some k =>
    rw [hs] at ha
    exact ⟨k, vp, rfl, ha, h.2.trans (hb.mono h.2.size)⟩
theorem Made.accept (h : Made w0 l w) (p : Pk) (A : Option Addr) (n c : Nat) (hn : p.data.length = n) (hp : TS.PkIn p) (iss : Nat) (hi : iss < 4294967296) :
    Calls Try.prog 38 #[.agg (p.cs A n c).toArray, .int .u32 (iss : Int)] w fun e w' => ∃ kb vp, e = .returned (ptr kb) ∧ Made w0 (l ++ [Item.side kb ((TS.accept p iss).getD TS.zero) vp]) w' ∧ (kb = none ↔ TS.accept p iss = none) := by
  refine (all_accept h.1 p A n c hn hp iss hi).mono ?_
  rintro e w' ⟨hb, kb, vp, rfl, ha, _, hn⟩
  exact ⟨kb, vp, rfl, ⟨ha, h.2.trans (hb.mono h.2.size)⟩, hn⟩
theorem Made.out (h : Made w0 l w) {j : Nat} {kb : Option Nat} {s : TS} {vp : Value} (hj : l[j]? = some (Item.side kb s vp)) :
    Calls Try.prog 34 #[ptr kb] w fun e w' => ∃ v vp', e = .returned v ∧ Made w0 (l.set j (Item.side kb s.outp.2 vp') ++ [Item.row v s.outp.1]) w' := by
  refine (side_out h.1 hj).mono ?_
  rintro e w' ⟨ho, v, vp', rfl, ha, _, _⟩
  exact ⟨v, vp', rfl, ha, only_below h.1 h.2 (own_any hj ho)⟩
theorem Made.hand (h : Made w0 l w) {i j : Nat} {ka kb : Option Nat} {s t : TS} {va vb : Value} (hij : i ≠ j) (hi : l[i]? = some (Item.side ka s va)) (hj : l[j]? = some (Item.side kb t vb)) {m : Nat} (hf : t.Fine m) (hm : m ≤ 1000000) (hp : t.pack.length ≤ 5) (hp2 : s.pack.length ≤ 5) :
    Calls Try.prog 40 #[ptr ka, ptr kb] w fun e w' => e = .returned (.tuple #[]) ∧ ∃ va' vb', Made w0 ((l.set i (Item.side ka s.outp.2 va')).set j (Item.side kb (t.takeAll s.outp.1) vb')) w' := by
  refine (hand_calls h.1 hij hi hj hf.ok hf.qu (by omega) (by have := hf.sent; omega)).mono ?_
  rintro e w' ⟨rfl, ho, va', vb', ha⟩
  exact ⟨rfl, va', vb', ha, only_below h.1 h.2 ho⟩
theorem Made.did (h : Made w0 l w) {j : Nat} {kb : Option Nat} {s s' : TS} {vp v : Value} (hj : l[j]? = some (Item.side kb s vp)) {e : Ending} (hd : DidJ (fun b => b < w0.heap.size) l w j kb vp s s' v e w') : e = .returned v ∧ ∃ vp', Made w0 (l.set j (Item.side kb s' vp')) w' := by
  obtain ⟨rfl, ho, vp', ha, _⟩ := hd
  exact ⟨rfl, vp', ha, only_below h.1 h.2 (own_any hj ho)⟩
theorem Made.read (h : Made w0 l w) {j : Nat} {kb : Option Nat} {s : TS} {vp : Value} (hj : l[j]? = some (Item.side kb s vp)) {m : Nat} (hf : s.Fine m) (hm : m ≤ 10000000) (hp : s.pack.length ≤ 700000) (n : Int) :
    Calls Try.prog 33 #[ptr kb, .int .i64 n] w fun e w' => ∃ v vp', e = .returned v ∧ Made w0 (l.set j (Item.side kb (s.read n).2 vp') ++ [Item.bytes v (s.read n).1]) w' := by
  refine (side_read h.1 hj hf.ok hp (by have := hf.got; omega) n).mono ?_
  rintro e w' ⟨ho, v, vp', rfl, ha, _, _⟩
  exact ⟨v, vp', rfl, ha, only_below h.1 h.2 (own_any hj ho)⟩
end
theorem end_f0 (a b c d e : Int) (f g : Bool) (w : World) : (Instr.field 56 (.agg #[.int .i64 a, .int .i64 b, .int .i64 c, .int .i64 d, .int .i64 e, .bool f, .bool g]) 0).run Try.prog w = .ok (.int .i64 a) w := by kernel_rfl
theorem end_f1 (a b c d e : Int) (f g : Bool) (w : World) : (Instr.field 56 (.agg #[.int .i64 a, .int .i64 b, .int .i64 c, .int .i64 d, .int .i64 e, .bool f, .bool g]) 1).run Try.prog w = .ok (.int .i64 b) w := by kernel_rfl
theorem end_f2 (a b c d e : Int) (f g : Bool) (w : World) : (Instr.field 56 (.agg #[.int .i64 a, .int .i64 b, .int .i64 c, .int .i64 d, .int .i64 e, .bool f, .bool g]) 2).run Try.prog w = .ok (.int .i64 c) w := by kernel_rfl
theorem end_f3 (a b c d e : Int) (f g : Bool) (w : World) : (Instr.field 56 (.agg #[.int .i64 a, .int .i64 b, .int .i64 c, .int .i64 d, .int .i64 e, .bool f, .bool g]) 3).run Try.prog w = .ok (.int .i64 d) w := by kernel_rfl
theorem end_f4 (a b c d e : Int) (f g : Bool) (w : World) : (Instr.field 56 (.agg #[.int .i64 a, .int .i64 b, .int .i64 c, .int .i64 d, .int .i64 e, .bool f, .bool g]) 4).run Try.prog w = .ok (.int .i64 e) w := by kernel_rfl
theorem end_f5 (a b c d e : Int) (f g : Bool) (w : World) : (Instr.field 56 (.agg #[.int .i64 a, .int .i64 b, .int .i64 c, .int .i64 d, .int .i64 e, .bool f, .bool g]) 5).run Try.prog w = .ok (.bool f) w := by kernel_rfl
theorem end_f6 (a b c d e : Int) (f g : Bool) (w : World) : (Instr.field 56 (.agg #[.int .i64 a, .int .i64 b, .int .i64 c, .int .i64 d, .int .i64 e, .bool f, .bool g]) 6).run Try.prog w = .ok (.bool g) w := by kernel_rfl
theorem rb_abc {w : World} : RB (w.alloc (.cells #[.int .u8 97, .int .u8 98, .int .u8 99] 5 (3, 4))) (some ⟨w.heap.size, 0, none⟩) Aw.abc := fun i hi => by
  refine ⟨w.heap.size, 0, rfl, ?_⟩
  have hb : (w.alloc (.cells #[.int .u8 97, .int .u8 98, .int .u8 99] 5 (3, 4))).heap[w.heap.size]? = some (.cells #[.int .u8 97, .int .u8 98, .int .u8 99] 5 (3, 4)) := by
    show (w.heap.push _)[w.heap.size]? = _
    simp
  unfold World.cell?
  simp only [hb]
  have hl : Aw.abc.length = 3 := rfl
  rw [hl] at hi
  rcases Nat.lt_or_ge i 1 with h | h
  · obtain rfl : i = 0 := by omega
    rfl
  · rcases Nat.lt_or_ge i 2 with h2 | h2
    · obtain rfl : i = 1 := by omega
      rfl
    · obtain rfl : i = 2 := by omega
      rfl
set_option maxRecDepth 100000 in
set_option maxHeartbeats 2000000 in
theorem awake_calls (w : World) : Calls Try.prog 14 #[] w fun e w' => e = .returned (.bool true) ∧ Below w.heap.size w w' := by
  have HD := Lib.hid ((Made.start w).dial 1 1000 2 80 0 4294967294 (by decide) Aw.dial_eq)
  go_enter Try.func14, Try.ntmps14
  go_wp2_with fail
  refine HD.out.mono ?_
  rintro e w1 ⟨ka, va, rfl, h1⟩
  have HO := Lib.hid (h1.out (j := 0) rfl)
  obtain ⟨pa, hpa⟩ : ∃ pa, ptr (some ka) = pa := ⟨_, rfl⟩
  rw [hpa] at HO ⊢
  have HPA := Lib.hid hpa
  clear hpa h1 HD
  go_wp2_with fail
  refine HO.out.mono ?_
  rintro e w2 ⟨v, va2, rfl, h2⟩
  have h2 : Made w [Item.side (some ka) Aw.a1 va2, Item.row v [Aw.p0]] w2 := h2
  obtain ⟨A, cap, rfl, _, _, hA⟩ := row_form' (h2.1.get 1 rfl)
  obtain ⟨g, rfl⟩ := hA (by decide)
  have hl : [Aw.p0].length = 1 := rfl
  rw [hl] at h2 ⊢
  obtain ⟨B, pn, pc, hat⟩ := row_at (h2.1.get 1 rfl) rfl (m := 0) (p := Aw.p0) rfl
  obtain ⟨q0, q1, q2, q3, q4, q5, q6, q7, q8, q9, q10⟩ : w2.cell? ⟨g, 0, none⟩ = some (.int .i64 1) ∧ w2.cell? ⟨g, 1, none⟩ = some (.int .i64 2) ∧ w2.cell? ⟨g, 2, none⟩ = some (.int .i64 1000) ∧ w2.cell? ⟨g, 3, none⟩ = some (.int .i64 80) ∧ w2.cell? ⟨g, 4, none⟩ = some (.int .u32 4294967294) ∧ w2.cell? ⟨g, 5, none⟩ = some (.int .u32 0) ∧ w2.cell? ⟨g, 6, none⟩ = some (.int .i64 1) ∧ w2.cell? ⟨g, 7, none⟩ = some (.int .i64 1024) ∧ w2.cell? ⟨g, 8, none⟩ = some (.int .i64 0) ∧ w2.cell? ⟨g, 9, none⟩ = some (.int .i64 0) ∧ w2.cell? ⟨g, 10, none⟩ = some (.slice B pn pc) := by
    refine ⟨?_, ?_, ?_, ?_, ?_, ?_, ?_, ?_, ?_, ?_, ?_⟩
    · simpa [Aw.p0] using hat.c0
    · simpa [Aw.p0] using hat.c1
    · simpa [Aw.p0] using hat.c2
    · simpa [Aw.p0] using hat.c3
    · simpa [Aw.p0] using hat.c4
    · simpa [Aw.p0] using hat.c5
    · simpa [Aw.p0] using hat.c6
    · simpa [Aw.p0] using hat.c7
    · simpa [Aw.p0] using hat.c8
    · simpa [Aw.p0] using hat.c9
    · simpa [Aw.p0] using hat.c10
  have HAC := Lib.hid (h2.accept Aw.p0 B pn pc hat.len ⟨by decide, by decide⟩ 100 (by decide))
  rw [show TS.accept Aw.p0 100 = some Aw.b0 from Aw.acc_eq] at HAC
  clear HO h2 hA hat hl
  simp only [Pk.cs, Aw.p0] at HAC
  go_wp2_with fail
  refine HAC.out.mono ?_
  rintro e w3 ⟨kb, vb, rfl, h3, hkb⟩
  have h3 : Made w [Item.side (some ka) Aw.a1 va2, Item.row (.slice (some ⟨g, 0, none⟩) 1 cap) [Aw.p0], Item.side kb Aw.b0 vb] w3 := h3
  obtain ⟨pb, hpb⟩ : ∃ pb, ptr kb = pb := ⟨_, rfl⟩
  have HH := Lib.hid (h3.hand (i := 2) (j := 0) (by decide) rfl rfl Aw.fa1 (by decide) Aw.la1 Aw.lb0)
  rw [hpb] at HH ⊢
  rw [HPA.out] at HH
  have HPB := Lib.hid hpb
  clear hpb h3 hkb HAC q0 q1 q2 q3 q4 q5 q6 q7 q8 q9 q10
  go_wp2_with fail
  refine HH.out.mono ?_
  rintro e w4 ⟨rfl, vb2, va3, h4⟩
  have h4 : Made w [Item.side (some ka) Aw.a2 va3, Item.row (.slice (some ⟨g, 0, none⟩) 1 cap) [Aw.p0], Item.side kb Aw.b1 vb2] w4 := h4
  have HH2 := Lib.hid (h4.hand (i := 0) (j := 2) (by decide) rfl rfl Aw.fb1 (by decide) Aw.lb1 Aw.la2)
  rw [HPA.out, HPB.out] at HH2
  clear h4 HH
  go_wp2_with fail
  refine HH2.out.mono ?_
  rintro e w5 ⟨rfl, va4, vb3, h5⟩
  have h5 : Made w [Item.side (some ka) Aw.a3 va4, Item.row (.slice (some ⟨g, 0, none⟩) 1 cap) [Aw.p0], Item.side kb Aw.b2 vb3] w5 := h5
  have kc := Lib.run_convert_bytes_const (P := Try.prog) w5 30 5 #[.int .u8 97, .int .u8 98, .int .u8 99] 3 3 Try.underlying30 Try.underlying5
  simp only [List.size_toArray, List.length_cons, List.length_nil, Nat.reduceAdd] at kc
  have h6 := h5.ext (ext_alloc w5 (.cells #[.int .u8 97, .int .u8 98, .int .u8 99] 5 (3, 4)))
  have HRB : Hid (RB (w5.alloc (.cells #[.int .u8 97, .int .u8 98, .int .u8 99] 5 (3, 4))) (some ⟨w5.heap.size, 0, none⟩) Aw.abc) := Lib.hid rb_abc
  have HWR := Lib.hid (side_write h6.1 (j := 0) rfl Aw.fa3.ok (by have := Aw.la3; omega) (some ⟨w5.heap.size, 0, none⟩) 3 3 Aw.abc rfl (by omega) (by omega) HRB.out)
  rw [HPA.out, show (TS.write Aw.a3 Aw.abc).1 = 3 from Aw.n_eq] at HWR
  have H6 := Lib.hid h6
  clear h5 h6 HH2
  go_wp2_with fail
  refine HWR.out.mono ?_
  rintro e w7 hd
  obtain ⟨rfl, va5, h7⟩ := H6.out.did (j := 0) rfl hd
  have h7 : Made w [Item.side (some ka) Aw.a4 va5, Item.row (.slice (some ⟨g, 0, none⟩) 1 cap) [Aw.p0], Item.side kb Aw.b2 vb3] w7 := h7
  have HH3 := Lib.hid (h7.hand (i := 0) (j := 2) (by decide) rfl rfl Aw.fb2 (by decide) Aw.lb2 Aw.la4)
  rw [HPA.out, HPB.out] at HH3
  clear h7 hd HWR H6 kc
  go_wp2_with fail
  refine HH3.out.mono ?_
  rintro e w8 ⟨rfl, va6, vb4, h8⟩
  have h8 : Made w [Item.side (some ka) Aw.a5 va6, Item.row (.slice (some ⟨g, 0, none⟩) 1 cap) [Aw.p0], Item.side kb Aw.b3 vb4] w8 := h8
  have HH4 := Lib.hid (h8.hand (i := 2) (j := 0) (by decide) rfl rfl Aw.fa5 (by decide) Aw.la5 Aw.lb3)
  rw [HPA.out, HPB.out] at HH4
  clear h8 HH3
  go_wp2_with fail
  refine HH4.out.mono ?_
  rintro e w9 ⟨rfl, vb5, va7, h9⟩
  have h9 : Made w [Item.side (some ka) Aw.a6 va7, Item.row (.slice (some ⟨g, 0, none⟩) 1 cap) [Aw.p0], Item.side kb Aw.b4 vb5] w9 := h9
  have HCL := Lib.hid (side_close h9.1 (j := 0) rfl Aw.fa6.ok (by have := Aw.la6; omega))
  rw [HPA.out] at HCL
  have H9 := Lib.hid h9
  clear h9 HH4
  go_wp2_with fail
  refine HCL.out.mono ?_
  rintro e w10 hd
  obtain ⟨rfl, va8, h10⟩ := H9.out.did (j := 0) rfl hd
  have h10 : Made w [Item.side (some ka) Aw.a7 va8, Item.row (.slice (some ⟨g, 0, none⟩) 1 cap) [Aw.p0], Item.side kb Aw.b4 vb5] w10 := h10
  have HH5 := Lib.hid (h10.hand (i := 0) (j := 2) (by decide) rfl rfl Aw.fb4 (by decide) Aw.lb4 Aw.la7)
  rw [HPA.out, HPB.out] at HH5
  clear h10 hd HCL H9
  go_wp2_with fail
  refine HH5.out.mono ?_
  rintro e w11 ⟨rfl, va9, vb6, h11⟩
  have h11 : Made w [Item.side (some ka) Aw.a8 va9, Item.row (.slice (some ⟨g, 0, none⟩) 1 cap) [Aw.p0], Item.side kb Aw.b5 vb6] w11 := h11
  have HRD := Lib.hid (h11.read (j := 2) rfl Aw.fb5 (by decide) (by have := Aw.lb5; omega) 9)
  rw [HPB.out] at HRD
  clear h11 HH5
  go_wp2_with fail
  refine HRD.out.mono ?_
  rintro e w12 ⟨v, vb7, rfl, h12⟩
  have h12 : Made w [Item.side (some ka) Aw.a8 va9, Item.row (.slice (some ⟨g, 0, none⟩) 1 cap) [Aw.p0], Item.side kb Aw.b6 vb7, Item.bytes v (Aw.b5.read 9).1] w12 := h12
  rw [Aw.x_eq] at h12
  obtain ⟨B, c, rfl, hrb, _, _⟩ := (h12.1.get 3 rfl).1.form
  have hab : Aw.abc.length = 3 := rfl
  rw [hab] at h12 ⊢
  have k1 := conv_str (P := Try.prog) Try.underlying30 Try.underlying5 Try.underlying9 hrb 3 c rfl
  have k2 := strB_toList
  have HE1 := Lib.hid (fun (W : World) (h : Made w [Item.side (some ka) Aw.a8 va9, Item.row (.slice (some ⟨g, 0, none⟩) 1 cap) [Aw.p0], Item.side kb Aw.b6 vb7, Item.bytes (.slice B 3 c) Aw.abc] W) => side_end h.1 (j := 0) rfl)
  have HE2 := Lib.hid (fun (W : World) (h : Made w [Item.side (some ka) Aw.a8 va9, Item.row (.slice (some ⟨g, 0, none⟩) 1 cap) [Aw.p0], Item.side kb Aw.b6 vb7, Item.bytes (.slice B 3 c) Aw.abc] W) => side_end h.1 (j := 2) rfl)
  have HAN := Lib.hid (fun (W : World) (h : Made w [Item.side (some ka) Aw.a8 va9, Item.row (.slice (some ⟨g, 0, none⟩) 1 cap) [Aw.p0], Item.side kb Aw.b6 vb7, Item.bytes (.slice B 3 c) Aw.abc] W) => h.accept Pk.zero none 0 0 rfl ⟨by decide, by decide⟩ 1 (by decide))
  rw [HPA.out] at HE1
  rw [HPB.out] at HE2
  have H12 := Lib.hid h12
  have t1 : Aw.a8.tell = [.int .i64 3, .int .i64 3, .int .i64 (Aw.a8.out.length : Int), .int .i64 (Aw.a8.got : Int), .int .i64 (Aw.a8.inn.length : Int), .bool Aw.a8.fin, .bool Aw.a8.shut] := by
    unfold TS.tell
    rw [if_neg (by rw [Aw.st_eq]; decide), Aw.st_eq, Aw.sent_eq]
    rfl
  have t2 : Aw.b6.tell = [.int .i64 (Aw.b6.state : Int), .int .i64 (Aw.b6.sent : Int), .int .i64 (Aw.b6.out.length : Int), .int .i64 (Aw.b6.got : Int), .int .i64 (Aw.b6.inn.length : Int), .bool true, .bool Aw.b6.shut] := by
    unfold TS.tell
    rw [if_neg Aw.b6_st, Aw.fin_eq]
  rw [t1] at HE1
  rw [t2] at HE2
  clear h12 hrb HRD t1 t2 hab
  simp only [Pk.cs, Pk.zero] at HAN
  have hs3 : strB Aw.abc = (⟨#[97, 98, 99]⟩ : ByteArray) := rfl
  rw [hs3] at k1
  clear k2 hs3
  have hf0 := fun w => end_f0 3 3 (Aw.a8.out.length : Int) (Aw.a8.got : Int) (Aw.a8.inn.length : Int) Aw.a8.fin Aw.a8.shut w
  have hf1 := fun w => end_f1 3 3 (Aw.a8.out.length : Int) (Aw.a8.got : Int) (Aw.a8.inn.length : Int) Aw.a8.fin Aw.a8.shut w
  have hf5 := fun w => end_f5 (Aw.b6.state : Int) (Aw.b6.sent : Int) (Aw.b6.out.length : Int) (Aw.b6.got : Int) (Aw.b6.inn.length : Int) true Aw.b6.shut w
  go_wp2_with fail
  refine (HE1.out _ H12.out).mono ?_
  rintro e w13 ⟨rfl, hb13⟩
  have H13 := Lib.hid (H12.out.ext hb13)
  clear hb13 H12
  go_wp2_with fail
  refine (HE1.out _ H13.out).mono ?_
  rintro e w14 ⟨rfl, hb14⟩
  have H14 := Lib.hid (H13.out.ext hb14)
  clear hb14 H13
  go_wp2_with fail
  refine (HE2.out _ H14.out).mono ?_
  rintro e w15 ⟨rfl, hb15⟩
  have H15 := Lib.hid (H14.out.ext hb15)
  clear hb15 H14
  go_wp2_with fail
  refine (HAN.out _ H15.out).mono ?_
  rintro e w16 ⟨kn, vn, rfl, h16, hkn⟩
  obtain rfl : kn = none := hkn.2 (show TS.accept Pk.zero 1 = none from Aw.acc_none)
  have H16 := Lib.hid h16.2
  rw [show ptr none = .pointer none from rfl]
  clear h16 hkn H15 HE1 HE2 HAN
  go_wp2_with fail
  go_ret
  exact ⟨rfl, H16.out⟩
end Go.Proofs.Ytjhnnnklfhbebaa
