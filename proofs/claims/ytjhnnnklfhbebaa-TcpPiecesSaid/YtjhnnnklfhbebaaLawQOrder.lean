/- TcpOrder: the walk. -/
import Derived.Test.YtjhnnnklfhbebaaTiR
namespace Go.Proofs.Ytjhnnnklfhbebaa
open Go.RowKit
set_option linter.unusedVariables false
set_option linter.unusedSimpArgs false
/-- A pair that a law made; what came is a beginning of what was written. -/
def OdAt (w0 : World) (iss irs g : Nat) (P : PS) (m : Nat) (W : World) : Prop := PlayAt w0 g P m W ∧ OI iss irs P
theorem OdAt.ext {w0 W W' : World} {iss irs g m : Nat} {P : PS} (h : OdAt w0 iss irs g P m W) (hb : Below W.heap.size W W') : OdAt w0 iss irs g P m W' := ⟨h.1.ext hb, h.2⟩
theorem OdAt.below {w0 W : World} {iss irs g m : Nat} {P : PS} (h : OdAt w0 iss irs g P m W) : Below w0.heap.size w0 W := by
  obtain ⟨⟨V, h1, h2⟩, h3⟩ := h
  exact h1.2
theorem OdAt.does {w0 W : World} {iss irs g m : Nat} {P : PS} (h : OdAt w0 iss irs g P m W) (hm : m ≤ 2000000) (k : ActA) (A : Option Addr) (c : Nat) (ha : ActA.At w0 k A c) :
    Calls Try.prog 23 #[.pointer (some ⟨g, 0, none⟩), .agg (k.cs A c).toArray] W fun e W' => e = .returned (.tuple #[]) ∧ OdAt w0 iss irs g (P.does k) (m + 1) W' := by
  refine (does_play h.1 (by omega) k A c ha).mono ?_
  rintro e W' ⟨rfl, h2⟩
  obtain ⟨V, _, _, hg⟩ := h.1
  exact ⟨rfl, h2, h.2.does hg hm k⟩
theorem OdAt.right {w0 W : World} {iss irs g m : Nat} {P : PS} (h : OdAt w0 iss irs g P m W) :
    Calls Try.prog 36 #[.pointer (some ⟨g, 0, none⟩)] W fun e W' => e = .returned (.bool true) ∧ OdAt w0 iss irs g P m W' := by
  obtain ⟨⟨V, h1, h2, h3⟩, h4⟩ := h
  refine (right_calls h1.1 (h4.right h3.zok fun i hi => (h3.fine.fine i hi).ok.st)).mono ?_
  rintro e W' ⟨rfl, hb⟩
  exact ⟨rfl, ⟨V, h1.ext hb, h2, h3⟩, h4⟩
set_option maxRecDepth 100000 in
set_option maxHeartbeats 4000000 in
theorem order_walk (w : World) (iss : Nat) (hi : iss ≤ 4294967295) (irs : Nat) (hr : irs ≤ 4294967295) (A : Option Addr) (c : Nat) (l : List ActA) (hl : RActs w A l) (hc : l.length ≤ c) (hm : c ≤ maxLen) :
    Calls Try.prog 8 #[.int .u32 (iss : Int), .int .u32 (irs : Int), .slice A l.length c] w fun e w' => e = .returned (.bool true) ∧ Below w.heap.size w w' := by
  have HAW := Lib.hid (fun W => awake_calls W)
  have HFE := Lib.hid (few_calls w A c l hl hc hm)
  have HRL2 := Lib.hid hl
  have HBE := Lib.hid (begun_play w iss irs (by omega) (by omega))
  obtain ⟨N, hN⟩ : ∃ N, l.length = N := ⟨_, rfl⟩
  have HN := Lib.hid hN
  have hNm : N ≤ 9223372036854775807 := by have : c ≤ 9223372036854775807 := hm; omega
  rw [hN] at HFE hc ⊢
  clear hl hN hm hi hr
  go_enter Try.func8, Try.ntmps8
  go_wp2_with fail
  refine HFE.out.mono ?_
  rintro e w1 ⟨⟨b, rfl, hfew⟩, rfl⟩
  clear HFE
  cases b with
  | false =>
    clear HBE hfew
    go_wp2_with fail
    refine (HAW.out _).mono ?_
    rintro e w2 ⟨rfl, hb⟩
    have HB := Lib.hid hb
    clear hb
    go_wp2_with fail
    go_ret
    exact ⟨rfl, HB.out⟩
  | true =>
    have hN4 : N ≤ 400 := hfew rfl
    clear hfew
    go_wp2_with fail
    refine HBE.out.mono ?_
    rintro e w3 ⟨g, rfl, hp⟩
    have HP : Hid (OdAt w iss irs g (PS.begun iss irs) 0 w3) := Lib.hid ⟨hp, begun_oi iss irs⟩
    clear hp HBE
    go_wp2_with fail
    go_loopg [19] N (fun gk v wr => ∃ m : Nat, v = .int .i64 (m : Int) ∧ m + gk = N ∧ Hid (∃ P, OdAt w iss irs g P m wr))
    case atStart => exact ⟨0, rfl, by omega, Lib.hid ⟨_, HP.out⟩⟩
    case round =>
      obtain ⟨m, rfl, hmg, hinv⟩ := hrel
      by_cases hm : m < N
      · have hmi : (m : Int) < (N : Int) := by omega
        have hwm : IntKind.i64.wrap ((m : Int) + 1) = ((m + 1 : Nat) : Int) := by rw [IntWalk.i64_in _ (by omega)]; omega
        obtain ⟨P, hod⟩ := hinv.out
        obtain ⟨k, hk⟩ : ∃ k, l[m]? = some k := ⟨_, List.getElem?_eq_getElem (by rw [HN.out]; exact hm)⟩
        obtain ⟨b, o, A', c', rfl, hcell0, hat⟩ := HRL2.out m k hk
        have hcell : ∀ (j : Nat) (v : Value), (k.cs A' c')[j]? = some v → wr.cell? ⟨b, o + m * 6 + j, none⟩ = some v := fun j v hj => (hod.below.cell (World.block_lt_of_cell? w _ (hcell0 j v hj))).trans (hcell0 j v hj)
        obtain ⟨q0, q1, q2, q3, q4, q5⟩ : wr.cell? ⟨b, o + m * 6, none⟩ = some (.int .i64 k.op) ∧ wr.cell? ⟨b, o + m * 6 + 1, none⟩ = some (.int .i64 k.side) ∧ wr.cell? ⟨b, o + m * 6 + 2, none⟩ = some (.int .i64 k.at_) ∧ wr.cell? ⟨b, o + m * 6 + 3, none⟩ = some (.int .i64 k.n) ∧ wr.cell? ⟨b, o + m * 6 + 4, none⟩ = some (.slice A' k.b.length c') ∧ wr.cell? ⟨b, o + m * 6 + 5, none⟩ = some (.bool k.stay) := ⟨hcell 0 _ rfl, hcell 1 _ rfl, hcell 2 _ rfl, hcell 3 _ rfl, hcell 4 _ rfl, hcell 5 _ rfl⟩
        have HDO := Lib.hid (fun (W : World) (h : OdAt w iss irs g P m W) => h.does (by omega) k A' c' hat)
        simp only [ActA.cs] at HDO
        obtain ⟨bl, hbl⟩ : ∃ bl, k.b.length = bl := ⟨_, rfl⟩
        rw [hbl] at q4 HDO
        have HOD := Lib.hid hod
        clear hcell hcell0 hat hk hbl hinv hod
        go_upto_region 7 with fail
        obtain ⟨gb0, hgb0⟩ : ∃ x, wr.heap.size = x := ⟨_, rfl⟩
        refine name_world (fun W => OdAt w iss irs g P m W ∧ BK W wr.heap.size 46 [.int .i64 k.op, .int .i64 k.side, .int .i64 k.at_, .int .i64 k.n, .slice A' bl c', .bool k.stay]) ⟨HOD.out.ext (ext_alloc _ _), BK.new _ _ _⟩ ?_
        rintro w4 ⟨hp4, hk4⟩
        rw [hgb0] at hk4 ⊢
        have y0 : w4.cell? ⟨gb0, 0, none⟩ = some (.int .i64 k.op) := hk4.cell rfl
        have y1 : w4.cell? ⟨gb0, 1, none⟩ = some (.int .i64 k.side) := hk4.cell rfl
        have y2 : w4.cell? ⟨gb0, 2, none⟩ = some (.int .i64 k.at_) := hk4.cell rfl
        have y3 : w4.cell? ⟨gb0, 3, none⟩ = some (.int .i64 k.n) := hk4.cell rfl
        have y4 : w4.cell? ⟨gb0, 4, none⟩ = some (.slice A' bl c') := hk4.cell rfl
        have y5 : w4.cell? ⟨gb0, 5, none⟩ = some (.bool k.stay) := hk4.cell rfl
        have HP4 := Lib.hid hp4
        clear hp4 hk4 hgb0 q0 q1 q2 q3 q4 q5 HOD
        go_wp2_with fail
        refine (HDO.out _ HP4.out).mono ?_
        rintro e w5 ⟨rfl, hp5⟩
        have HP5 := Lib.hid hp5
        clear hp5 HP4 HDO y0 y1 y2 y3 y4 y5
        go_wp2_with fail
        refine HP5.out.right.mono ?_
        rintro e w6 ⟨rfl, hp6⟩
        have HP6 : Hid (∃ P, OdAt w iss irs g P (m + 1) w6) := Lib.hid ⟨_, hp6⟩
        clear hp6 HP5
        go_wp2_with fail
        go_roundg (gk - 1)
        case measure => omega
        case rel => exact ⟨m + 1, by first | rfl | (congr 1), by omega, HP6⟩
      · obtain rfl : m = N := by omega
        have HIV := hinv
        clear hinv
        go_wp2_with fail
        refine (HAW.out _).mono ?_
        rintro e w6 ⟨rfl, hb⟩
        obtain ⟨P, hod⟩ := HIV.out
        have HF := Lib.hid ((hod.ext hb).below)
        clear hb hod HIV
        go_wp2_with fail
        go_ret
        exact ⟨rfl, HF.out⟩
end Go.Proofs.Ytjhnnnklfhbebaa
