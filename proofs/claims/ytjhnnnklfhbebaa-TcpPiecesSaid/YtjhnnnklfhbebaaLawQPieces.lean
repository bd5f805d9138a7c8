/- TcpPieces: the walk. -/
import Derived.Test.YtjhnnnklfhbebaaTkC
namespace Go.Proofs.Ytjhnnnklfhbebaa
open Go.RowKit
set_option linter.unusedVariables false
set_option linter.unusedSimpArgs false
section
variable {w0 W : World} {iss irs g m : Nat} {P : PS} {text : List UInt8}
theorem OdAt.wrc (h : OdAt w0 iss irs g P m W) : ∃ A c, W.cell? ⟨g, 5, none⟩ = some (.slice A (P.wr 0).length c) := by
  obtain ⟨⟨V, h1, h2, h3⟩, h4⟩ := h
  have hk := (h1.1.get 0 p_bk).1
  obtain ⟨A0, c0, e0, _⟩ := (h1.1.get _ (p_wr (i := 0) (by omega))).1.form
  refine ⟨A0, c0, ?_⟩
  rw [← e0]
  exact hk.cell (c_wr (i := 0) (by omega))
theorem OdAt.tail (h : OdAt w0 iss irs g P m W) (hr : P.rd 1 = text) (hf : (P.c 1).fin = true) (hst : (P.c 1).state ≠ 0) (A0 : Option Addr) (c0 tl : Nat) (htl : text.length = tl) (ht : RB w0 A0 text) :
    ∃ (Ar : Option Addr) (cr : Nat) (pv : Value) (a b c d e : Int) (sg : Bool), (∀ W', Below W.heap.size W W' → W'.cell? ⟨g, 8, none⟩ = some (.slice Ar tl cr) ∧ W'.cell? ⟨g, 1, none⟩ = some pv) ∧
      (∀ W', Below W.heap.size W W' → Calls Try.prog 27 #[.slice Ar tl cr, .slice A0 tl c0] W' fun e w' => e = .returned (.bool true) ∧ W' = w') ∧
      (∀ W', Below W.heap.size W W' → Calls Try.prog 26 #[pv] W' fun x w' => x = .returned (.agg #[.int .i64 a, .int .i64 b, .int .i64 c, .int .i64 d, .int .i64 e, .bool true, .bool sg]) ∧ Below W'.heap.size W' w') := by
  obtain ⟨⟨V, h1, h2, h3⟩, h4⟩ := h
  obtain ⟨Ar, cr, e0, rb, _⟩ := (h1.1.get _ (p_rd (i := 1) (by omega))).1.form
  rw [hr] at e0 rb
  rw [htl] at e0
  refine ⟨Ar, cr, ptr (V.k 1), ((P.c 1).state : Int), ((P.c 1).sent : Int), ((P.c 1).out.length : Int), ((P.c 1).got : Int), ((P.c 1).inn.length : Int), (P.c 1).shut, fun W' hb => ?_, fun W' hb => ?_, fun W' hb => ?_⟩
  · have hk := ((h1.ext hb).1.get 0 p_bk).1
    refine ⟨?_, hk.cell (c_ptr (i := 1) (by omega))⟩
    rw [← e0]
    exact hk.cell (c_rd (i := 1) (by omega))
  · have := equal_calls Ar A0 cr c0 text text W' (rb.ext hb) (ht.ext (h1.2.trans (hb.mono h1.2.size)))
    rw [htl, beq_self_eq_true] at this
    exact this
  · have := side_end (h1.ext hb).1 (p_side (i := 1) (by omega))
    unfold TS.tell at this
    rw [if_neg hst, hf] at this
    exact this
end
/-- The loop of TcpPieces, in memory. -/
def PcIn (w0 : World) (iss irs g : Nat) (text : List UInt8) (C i n : Nat) (W : World) : Prop := ∃ P m, PcAt iss irs text C i n P ∧ OdAt w0 iss irs g P m W ∧ m ≤ i * 18015
theorem settle_lit {w0 w : World} {iss irs g m t b : Nat} {z : Int} {P R : PS} (hz : (t : Int) = z) (hb : t * 9007 = b) (h : OdAt w0 iss irs g P m w) (hs : Settles t P R) (ht : t ≤ 200) (hm : m + b ≤ 2000000) :
    Calls Try.prog 37 #[.pointer (some ⟨g, 0, none⟩), .int .i64 z] w fun e w' => e = .returned (.bool true) ∧ ∃ m', m' ≤ m + b ∧ OdAt w0 iss irs g R m' w' := by
  subst hz
  subst hb
  exact settle_calls h hs ht hm
theorem PcIn.opened {w0 W : World} {iss irs g C i n j : Nat} {text : List UInt8} (h : PcIn w0 iss irs g text C i n W) (hr : irs < 4294967296) (ht : text.length ≤ 5000) (hC : C ≤ 60) (hi : i < 80) (hj : j ≤ text.length - n) (hik : i < C ∨ (j = text.length - n ∧ 0 < j)) :
    ∃ X0 X1 : World → Prop, X0 W ∧ (∀ W', X0 W' → (∃ A1 c1, W'.cell? ⟨g, 5, none⟩ = some (.slice A1 n c1)) ∧ g < W'.heap.size) ∧
      (∀ W' A' c', X0 W' → RB w0 A' ((text.drop n).take j) → j ≤ c' → c' ≤ maxLen → Calls Try.prog 23 #[.pointer (some ⟨g, 0, none⟩), .agg #[.int .i64 6, .int .i64 0, .int .i64 0, .int .i64 0, .slice A' j c', .bool false]] W' fun e W'' => e = .returned (.tuple #[]) ∧ X1 W'') ∧
      (∀ W', X1 W' → (∃ A1 c1, W'.cell? ⟨g, 5, none⟩ = some (.slice A1 (n + min j 1024) c1)) ∧ g < W'.heap.size) ∧
      (∀ W', X1 W' → Calls Try.prog 37 #[.pointer (some ⟨g, 0, none⟩), .int .i64 2] W' fun e W'' => e = .returned (.bool true) ∧ PcIn w0 iss irs g text C (i + 1) (n + min j 1024) W'') := by
  obtain ⟨P, m, h1, h2, h3⟩ := h
  obtain ⟨e1, R, s1, s2⟩ := h1.step hr ht hC hj hik
  have hm : m + 18015 ≤ 2000000 := by omega
  have hxl : ((text.drop n).take j).length = j := by
    rw [List.length_take, List.length_drop]
    omega
  refine ⟨fun W' => OdAt w0 iss irs g P m W', fun W' => OdAt w0 iss irs g (P.does (wrA ((text.drop n).take j))) (m + 1) W', h2, fun W' hx => ?_, fun W' A' c' hx hrb hjc hcm => ?_, fun W' hx => ?_, fun W' hx => ?_⟩
  · obtain ⟨A1, c1, e⟩ := hx.wrc
    rw [h1.len] at e
    exact ⟨⟨A1, c1, e⟩, hx.lt⟩
  · have := hx.does (by omega) (wrA ((text.drop n).take j)) A' c' ⟨hrb, by show ((text.drop n).take j).length ≤ c'; omega, hcm, by show (-9223372036854775808 : Int) ≤ 6; omega, by show (6 : Int) ≤ 9223372036854775807; omega, by show (-9223372036854775808 : Int) ≤ 0; omega, by show (0 : Int) ≤ 9223372036854775807; omega, by show (-9223372036854775808 : Int) ≤ 0; omega, by show (0 : Int) ≤ 9223372036854775807; omega, by show (-9223372036854775808 : Int) ≤ 0; omega, by show (0 : Int) ≤ 9223372036854775807; omega⟩
    unfold ActA.cs at this
    rw [show (wrA ((text.drop n).take j)).b.length = j from hxl] at this
    exact this
  · obtain ⟨A1, c1, e⟩ := hx.wrc
    have hnl := h1.nl
    rw [e1, List.length_take, show min (n + min j 1024) text.length = n + min j 1024 by omega] at e
    exact ⟨⟨A1, c1, e⟩, hx.lt⟩
  · refine (settle_lit (t := 2) (b := 18014) (z := 2) rfl rfl hx s1 (by omega) (Nat.le_trans (Nat.le_of_eq (Nat.add_assoc m 1 18014)) hm)).mono ?_
    rintro e W'' ⟨rfl, m', hm', hod⟩
    exact ⟨rfl, R, m', s2, hod, by omega⟩
theorem PcIn.closed {w0 W : World} {iss irs g C i n : Nat} {text : List UInt8} (h : PcIn w0 iss irs g text C i n W) (hr : irs < 4294967296) (ht : text.length ≤ 5000) (hC : C ≤ 60) (hi : i ≤ 80) (he : 80 ≤ i ∨ (C ≤ i ∧ n = text.length)) (A0 : Option Addr) (c0 tl : Nat) (htl : text.length = tl) (hrb : RB w0 A0 text) :
    n = text.length ∧ ∃ X1 : World → Prop, (∀ W', Below W.heap.size W W' → Calls Try.prog 23 #[.pointer (some ⟨g, 0, none⟩), .agg #[.int .i64 9, .int .i64 0, .int .i64 0, .int .i64 0, .slice none 0 0, .bool false]] W' fun e W'' => e = .returned (.tuple #[]) ∧ X1 W'') ∧
      (∀ W', X1 W' → Calls Try.prog 37 #[.pointer (some ⟨g, 0, none⟩), .int .i64 12] W' fun e W'' => e = .returned (.bool true) ∧ Below w0.heap.size w0 W'' ∧ g < W''.heap.size ∧
        ∃ (Ar : Option Addr) (cr : Nat) (pv : Value) (a b c d e : Int) (sg : Bool), (∀ W', Below W''.heap.size W'' W' → W'.cell? ⟨g, 8, none⟩ = some (.slice Ar tl cr) ∧ W'.cell? ⟨g, 1, none⟩ = some pv) ∧
          (∀ W', Below W''.heap.size W'' W' → Calls Try.prog 27 #[.slice Ar tl cr, .slice A0 tl c0] W' fun e w' => e = .returned (.bool true) ∧ W' = w') ∧
          (∀ W', Below W''.heap.size W'' W' → Calls Try.prog 26 #[pv] W' fun x w' => x = .returned (.agg #[.int .i64 a, .int .i64 b, .int .i64 c, .int .i64 d, .int .i64 e, .bool true, .bool sg]) ∧ Below W'.heap.size W' w')) := by
  obtain ⟨P, m, h1, h2, h3⟩ := h
  obtain ⟨hn, R, s1, s2, s3, s4⟩ := h1.fin hr ht hC he
  refine ⟨hn, fun W' => OdAt w0 iss irs g (P.does clA) (m + 1) W', fun W' hb => ?_, fun W' hx => ?_⟩
  · exact (h2.ext hb).lit (k := clA) (by omega) rfl (by decide) (by decide) (by decide) (by decide) rfl (by decide) (by decide) rfl
  · refine (settle_lit (t := 12) (b := 108084) (z := 12) rfl rfl hx s1 (by omega) (by omega)).mono ?_
    rintro e W'' ⟨rfl, m', hm', hod⟩
    exact ⟨rfl, hod.below, hod.lt, hod.tail s2 s3 s4 A0 c0 tl htl hrb⟩
theorem PcIn.lt {w0 W : World} {iss irs g C i n : Nat} {text : List UInt8} (h : PcIn w0 iss irs g text C i n W) : g < W.heap.size := by
  obtain ⟨P, m, h1, h2, h3⟩ := h
  exact h2.lt
theorem PcIn.below {w0 W : World} {iss irs g C i n : Nat} {text : List UInt8} (h : PcIn w0 iss irs g text C i n W) : Below w0.heap.size w0 W := by
  obtain ⟨P, m, h1, h2, h3⟩ := h
  exact h2.below
theorem u64_some' (x : Int) : ∃ n : Nat, IntKind.u64.wrap x = n ∧ n < 18446744073709551616 := by
  have h : IntKind.u64.wrap x = x % 18446744073709551616 := by simp [IntKind.wrap, IntKind.bits, IntKind.signed]
  exact ⟨(x % 18446744073709551616).toNat, by rw [h]; omega, by omega⟩
theorem tmod_nat' (n m : Nat) : ((n : Int).tmod (m : Int)) = ((n % m : Nat) : Int) := by rw [Int.tmod_eq_emod_of_nonneg (by omega)]; rfl
set_option maxRecDepth 100000 in
set_option maxHeartbeats 8000000 in
theorem pieces_walk13 (w : World) (iss : Nat) (hi : iss ≤ 4294967295) (irs : Nat) (hr : irs ≤ 4294967295) (A : Option Addr) (c : Nat) (l : List UInt8) (h : RB w A l) (hc : l.length ≤ c) (hl : l.length ≤ 140737488351232) (hcm : c ≤ maxLen)
    (B : Option Addr) (d : Nat) (t : List Int) (h2 : RZ w B t) (hd : t.length ≤ d) (hl2 : t.length ≤ 17592186043904) (hz : ∀ i, -9223372036854775808 ≤ t.getD i 0 ∧ t.getD i 0 ≤ 9223372036854775807) :
    Calls Try.prog 10 #[.int .u32 (iss : Int), .int .u32 (irs : Int), .slice A l.length c, .slice B t.length d] w fun e w' => e = .returned (.bool true) ∧ Below w.heap.size w w' := by
  have HAW := Lib.hid (fun W => awake_calls W)
  have HBE := Lib.hid (begun_play w iss irs (by omega) (by omega))
  have H := Lib.hid h
  have H2 := Lib.hid h2
  have HZ := Lib.hid hz
  have HI : Hid (iss < 4294967296 ∧ irs < 4294967296) := Lib.hid ⟨by omega, by omega⟩
  obtain ⟨T, hT⟩ : ∃ T, l.length = T := ⟨_, rfl⟩
  obtain ⟨C, hC⟩ : ∃ C, t.length = C := ⟨_, rfl⟩
  have HT := Lib.hid hT
  have HC := Lib.hid hC
  rw [hT] at hc hl ⊢
  rw [hC] at hd hl2 ⊢
  clear h h2 hz hT hC hi hr
  by_cases s1 : 5000 < T
  · have s1i : (5000 : Int) < (T : Int) := by omega
    go_enter Try.func10, Try.ntmps10
    go_wp2_with fail
    refine (HAW.out _).mono ?_
    rintro e w2 ⟨rfl, hb⟩
    have HB := Lib.hid hb
    clear hb
    go_wp2_with fail
    go_ret
    exact ⟨rfl, HB.out⟩
  have s1i : ¬ (5000 : Int) < (T : Int) := by omega
  by_cases s2 : 60 < C
  · have s2i : (60 : Int) < (C : Int) := by omega
    go_enter Try.func10, Try.ntmps10
    go_wp2_with fail
    refine (HAW.out _).mono ?_
    rintro e w2 ⟨rfl, hb⟩
    have HB := Lib.hid hb
    clear hb
    go_wp2_with fail
    go_ret
    exact ⟨rfl, HB.out⟩
  have s2i : ¬ (60 : Int) < (C : Int) := by omega
  go_enter Try.func10, Try.ntmps10
  go_wp2_with fail
  refine HBE.out.mono ?_
  rintro e w3 ⟨g, rfl, hp⟩
  have HP : Hid (PcIn w iss irs g l C 0 0 w3) := Lib.hid ⟨_, 0, begun_pc HI.out.1 HI.out.2 (by rw [HT.out]; omega), ⟨hp, begun_oi iss irs⟩, Nat.zero_le _⟩
  have HR0 : Hid (0 < T → ∃ b o, A = some ⟨b, o, none⟩ ∧ b < w.heap.size) := Lib.hid (fun h0 => by
    obtain ⟨b, o, e, hcell⟩ := H.out 0 (by rw [HT.out]; exact h0)
    exact ⟨b, o, e, World.block_lt_of_cell? w _ hcell⟩)
  clear hp HBE
  have hcl : c ≤ 9223372036854775807 := hcm
  clear s1i s2i
  go_wp2_with fail
  go_loopg [10, 11] 80 (fun gk vr vi wr => ∃ (i n q cq : Nat) (R : Option Addr), vi = .int .i64 (i : Int) ∧ vr = .slice R q cq ∧ q + n = T ∧ q ≤ cq ∧ cq ≤ c ∧ i + gk = 80 ∧ Hid (0 < q → ∃ b o, R = some ⟨b, o, none⟩ ∧ b < w.heap.size) ∧ Hid (RB w R (l.drop n)) ∧ Hid (PcIn w iss irs g l C i n wr))
  case atStart => exact ⟨0, 0, T, c, A, rfl, rfl, by omega, hc, Nat.le_refl _, by omega, HR0, Lib.hid (by rw [List.drop_zero]; exact H.out), HP⟩
  case round =>
    obtain ⟨i, n, q, cq, R, rfl, rfl, hqn, hqc, hcc, hig, HRQ, HRR, HPC⟩ := hrel
    by_cases hgo : i < 80 ∧ (i < C ∨ 0 < q)
    · have hgi : (i : Int) < 80 := by omega
      have hcqm : cq ≤ maxLen := Nat.le_trans hcc hcm
      by_cases hiC : i < C
      · have hiCi : (i : Int) < (C : Int) := by omega
        obtain ⟨b3, o3, rfl, hcell⟩ := (H2.out.ext (PcIn.below HPC.out)) i (by rw [HC.out]; exact hiC)
        obtain ⟨z, hze⟩ : ∃ z, t.getD i 0 = z := ⟨_, rfl⟩
        rw [hze] at hcell
        obtain ⟨x, hx, _⟩ := u64_some' z
        obtain ⟨j, hj, hj1⟩ : ∃ j : Nat, (x : Int).tmod ((q : Int) + 1) = j ∧ j ≤ q := ⟨x % (q + 1), tmod_nat' x (q + 1), by have := Nat.mod_lt x (show 0 < q + 1 by omega); omega⟩
        obtain ⟨X0, X1, hx0, hc0, hdo, hc1, hse⟩ := HPC.out.opened (j := j) HI.out.2 (by rw [HT.out]; omega) (by omega) hgo.1 (by rw [HT.out]; omega) (by rw [HT.out]; omega)
        obtain ⟨⟨A1, c1, q1⟩, hg1⟩ := hc0 wr hx0
        obtain ⟨ee, hee⟩ : ∃ ee, min j 1024 = ee := ⟨_, rfl⟩
        have heq : ee ≤ q := by omega
        have hej : ee ≤ j := by omega
        rw [hee] at hc1 hse
        have HX0 := Lib.hid hx0
        have HDO := Lib.hid hdo
        have HC1 := Lib.hid hc1
        have HSE := Lib.hid hse
        have hsub : IntKind.i64.wrap (((n + ee : Nat) : Int) - (n : Int)) = (ee : Int) := by rw [IntWalk.i64_in _ (by omega)]; omega
        have hwi : IntKind.i64.wrap ((i : Int) + 1) = ((i + 1 : Nat) : Int) := by rw [IntWalk.i64_in _ (by omega)]; omega
        have hml : (l.drop n).length = q := by rw [List.length_drop]; have := HT.out; omega
        have HW : Hid (∀ R', (0 < j → R' = R) → RB w R' ((l.drop n).take j)) := Lib.hid fun R' hR' => by
          by_cases h0 : j = 0
          · rw [h0, List.take_zero]
            exact RB.nil _ _
          · rw [hR' (by omega)]
            exact HRR.out.take j
        have HN : Hid (∀ R', (0 < q - ee → ∃ b o, R = some ⟨b, o, none⟩ ∧ R' = some ⟨b, o + ee, none⟩) → RB w R' (l.drop (n + ee)) ∧ (0 < q - ee → ∃ b o, R' = some ⟨b, o, none⟩ ∧ b < w.heap.size)) := Lib.hid fun R' hR' => by
          by_cases h0 : q - ee = 0
          · have e0 : l.drop (n + ee) = [] := List.drop_eq_nil_of_le (by have := HT.out; omega)
            rw [e0]
            exact ⟨RB.nil _ _, fun h => by omega⟩
          · obtain ⟨b, o, e1, e2⟩ := hR' (by omega)
            obtain ⟨b', o', e', hlt⟩ := HRQ.out (by omega)
            have hr := HRR.out
            rw [e1] at hr e'
            injection e' with e'
            injection e' with e3 _ _
            have := hr.drop ee
            rw [List.drop_drop] at this
            rw [e2]
            exact ⟨this, fun _ => ⟨b, o + ee, rfl, by omega⟩⟩
        have hm0 : 0 < q → ∃ b o, R = some ⟨b, o, none⟩ := fun h0 => by obtain ⟨b, o, e, _⟩ := HRQ.out h0; exact ⟨b, o, e⟩
        clear hx0 hc0 hdo hc1 hse hml hee
        have hcase : q = 0 ∨ (0 < q ∧ cq = ee) ∨ (0 < q ∧ ee < cq) := by omega
        rcases hcase with hq0 | ⟨h0, hce⟩ | ⟨h0, hce⟩
        · subst hq0
          obtain rfl : j = 0 := by omega
          obtain rfl : ee = 0 := by omega
          have HQN := Lib.hid hqn
          clear hm0 hqn
          rcases R with _ | ⟨b9, o9, _ | p9⟩ <;> go_wp2_with fail
          all_goals
            refine (HDO.out wr _ _ HX0.out (HW.out _ ?_) (Nat.zero_le _) hcqm).mono ?_
            first | exact fun _ => rfl | exact fun h => absurd h (by omega)
            rintro e w5 ⟨rfl, hx1⟩
            have HX1 := Lib.hid hx1
            obtain ⟨⟨A2, c2, q2⟩, hg2⟩ := HC1.out w5 HX1.out
            clear hx1 q1 hg1
            go_wp2_with fail
            refine (HSE.out w5 HX1.out).mono ?_
            rintro e w6 ⟨rfl, hpc⟩
            have HPC2 := Lib.hid hpc
            clear hpc q2 hg2 HX1
            go_wp2_with fail
            go_roundg (gk - 1)
            case measure => omega
            case rel =>
              have hqn := HQN.out
              exact ⟨i + 1, n + 0, 0, _, _, by first | rfl | (congr 1), rfl, by omega, by omega, by omega, by omega, Lib.hid (HN.out _ (fun h => absurd h (by omega))).2, Lib.hid (HN.out _ (fun h => absurd h (by omega))).1, HPC2⟩
        · obtain rfl : q = ee := by omega
          obtain rfl : q = cq := by omega
          obtain rfl : q = j := by omega
          obtain ⟨bb, oo, hRe⟩ := hm0 h0
          subst hRe
          clear hm0 hce
          go_wp2_with fail
          refine (HDO.out wr _ _ HX0.out (HW.out _ ?_) (by omega) hcqm).mono ?_
          first | exact fun _ => rfl | exact fun h => absurd h (by omega)
          rintro e w5 ⟨rfl, hx1⟩
          have HX1 := Lib.hid hx1
          obtain ⟨⟨A2, c2, q2⟩, hg2⟩ := HC1.out w5 HX1.out
          clear hx1 q1 hg1
          go_wp2_with fail
          refine (HSE.out w5 HX1.out).mono ?_
          rintro e w6 ⟨rfl, hpc⟩
          have HPC2 := Lib.hid hpc
          clear hpc q2 hg2 HX1
          go_wp2_with fail
          go_roundg (gk - 1)
          case measure => omega
          case rel =>
            exact ⟨i + 1, n + q, 0, _, _, by first | rfl | (congr 1), rfl, by omega, by omega, by omega, by omega, Lib.hid (fun h => absurd h (by omega)), Lib.hid (HN.out _ (fun h => absurd h (by omega))).1, HPC2⟩
        · obtain ⟨bb, oo, hRe⟩ := hm0 h0
          subst hRe
          clear hm0
          go_wp2_with fail
          refine (HDO.out wr _ _ HX0.out (HW.out _ ?_) (by omega) hcqm).mono ?_
          first | exact fun _ => rfl | exact fun h => absurd h (by omega)
          rintro e w5 ⟨rfl, hx1⟩
          have HX1 := Lib.hid hx1
          obtain ⟨⟨A2, c2, q2⟩, hg2⟩ := HC1.out w5 HX1.out
          clear hx1 q1 hg1
          go_wp2_with fail
          refine (HSE.out w5 HX1.out).mono ?_
          rintro e w6 ⟨rfl, hpc⟩
          have HPC2 := Lib.hid hpc
          clear hpc q2 hg2 HX1
          go_wp2_with fail
          go_roundg (gk - 1)
          case measure => omega
          case rel =>
            have hn := HN.out (some ⟨bb, oo + ee, none⟩) (fun _ => ⟨bb, oo, rfl, rfl⟩)
            exact ⟨i + 1, n + ee, q - ee, cq - ee, some ⟨bb, oo + ee, none⟩, by first | rfl | (congr 1), rfl, by omega, by omega, by omega, by omega, Lib.hid hn.2, Lib.hid hn.1, HPC2⟩
      · have hiCi : ¬ (i : Int) < (C : Int) := by omega
        have hq0 : 0 < q := by omega
        have hq0i : (0 : Int) < (q : Int) := by omega
        obtain ⟨X0, X1, hx0, hc0, hdo, hc1, hse⟩ := HPC.out.opened (j := q) HI.out.2 (by rw [HT.out]; omega) (by omega) hgo.1 (by rw [HT.out]; omega) (by rw [HT.out]; omega)
        obtain ⟨⟨A1, c1, q1⟩, hg1⟩ := hc0 wr hx0
        obtain ⟨ee, hee⟩ : ∃ ee, min q 1024 = ee := ⟨_, rfl⟩
        have heq : ee ≤ q := by omega
        have hej : ee ≤ q := by omega
        rw [hee] at hc1 hse
        have HX0 := Lib.hid hx0
        have HDO := Lib.hid hdo
        have HC1 := Lib.hid hc1
        have HSE := Lib.hid hse
        have hsub : IntKind.i64.wrap (((n + ee : Nat) : Int) - (n : Int)) = (ee : Int) := by rw [IntWalk.i64_in _ (by omega)]; omega
        have hwi : IntKind.i64.wrap ((i : Int) + 1) = ((i + 1 : Nat) : Int) := by rw [IntWalk.i64_in _ (by omega)]; omega
        have hml : (l.drop n).length = q := by rw [List.length_drop]; have := HT.out; omega
        have HW : Hid (∀ R', (0 < q → R' = R) → RB w R' ((l.drop n).take q)) := Lib.hid fun R' hR' => by
          by_cases h0 : q = 0
          · rw [h0, List.take_zero]
            exact RB.nil _ _
          · rw [hR' (by omega)]
            exact HRR.out.take q
        have HN : Hid (∀ R', (0 < q - ee → ∃ b o, R = some ⟨b, o, none⟩ ∧ R' = some ⟨b, o + ee, none⟩) → RB w R' (l.drop (n + ee)) ∧ (0 < q - ee → ∃ b o, R' = some ⟨b, o, none⟩ ∧ b < w.heap.size)) := Lib.hid fun R' hR' => by
          by_cases h0 : q - ee = 0
          · have e0 : l.drop (n + ee) = [] := List.drop_eq_nil_of_le (by have := HT.out; omega)
            rw [e0]
            exact ⟨RB.nil _ _, fun h => by omega⟩
          · obtain ⟨b, o, e1, e2⟩ := hR' (by omega)
            obtain ⟨b', o', e', hlt⟩ := HRQ.out (by omega)
            have hr := HRR.out
            rw [e1] at hr e'
            injection e' with e'
            injection e' with e3 _ _
            have := hr.drop ee
            rw [List.drop_drop] at this
            rw [e2]
            exact ⟨this, fun _ => ⟨b, o + ee, rfl, by omega⟩⟩
        have hm0 : 0 < q → ∃ b o, R = some ⟨b, o, none⟩ := fun h0 => by obtain ⟨b, o, e, _⟩ := HRQ.out h0; exact ⟨b, o, e⟩
        clear hx0 hc0 hdo hc1 hse hml hee
        have hcase : q = 0 ∨ (0 < q ∧ cq = ee) ∨ (0 < q ∧ ee < cq) := by omega
        rcases hcase with hq0 | ⟨h0, hce⟩ | ⟨h0, hce⟩
        · omega
        · obtain rfl : q = ee := by omega
          obtain rfl : q = cq := by omega
          obtain ⟨bb, oo, hRe⟩ := hm0 h0
          subst hRe
          clear hm0 hce
          go_wp2_with fail
          refine (HDO.out wr _ _ HX0.out (HW.out _ ?_) (by omega) hcqm).mono ?_
          first | exact fun _ => rfl | exact fun h => absurd h (by omega)
          rintro e w5 ⟨rfl, hx1⟩
          have HX1 := Lib.hid hx1
          obtain ⟨⟨A2, c2, q2⟩, hg2⟩ := HC1.out w5 HX1.out
          clear hx1 q1 hg1
          go_wp2_with fail
          refine (HSE.out w5 HX1.out).mono ?_
          rintro e w6 ⟨rfl, hpc⟩
          have HPC2 := Lib.hid hpc
          clear hpc q2 hg2 HX1
          go_wp2_with fail
          go_roundg (gk - 1)
          case measure => omega
          case rel =>
            exact ⟨i + 1, n + q, 0, _, _, by first | rfl | (congr 1), rfl, by omega, by omega, by omega, by omega, Lib.hid (fun h => absurd h (by omega)), Lib.hid (HN.out _ (fun h => absurd h (by omega))).1, HPC2⟩
        · obtain ⟨bb, oo, hRe⟩ := hm0 h0
          subst hRe
          clear hm0
          go_wp2_with fail
          refine (HDO.out wr _ _ HX0.out (HW.out _ ?_) (by omega) hcqm).mono ?_
          first | exact fun _ => rfl | exact fun h => absurd h (by omega)
          rintro e w5 ⟨rfl, hx1⟩
          have HX1 := Lib.hid hx1
          obtain ⟨⟨A2, c2, q2⟩, hg2⟩ := HC1.out w5 HX1.out
          clear hx1 q1 hg1
          go_wp2_with fail
          refine (HSE.out w5 HX1.out).mono ?_
          rintro e w6 ⟨rfl, hpc⟩
          have HPC2 := Lib.hid hpc
          clear hpc q2 hg2 HX1
          go_wp2_with fail
          go_roundg (gk - 1)
          case measure => omega
          case rel =>
            have hn := HN.out (some ⟨bb, oo + ee, none⟩) (fun _ => ⟨bb, oo, rfl, rfl⟩)
            exact ⟨i + 1, n + ee, q - ee, cq - ee, some ⟨bb, oo + ee, none⟩, by first | rfl | (congr 1), rfl, by omega, by omega, by omega, by omega, Lib.hid hn.2, Lib.hid hn.1, HPC2⟩
    · by_cases hi80 : i < 80
      · have hgi : (i : Int) < 80 := by omega
        have hiCi : ¬ (i : Int) < (C : Int) := by omega
        obtain ⟨hn, X1, hdo, hse⟩ := HPC.out.closed HI.out.2 (by rw [HT.out]; omega) (by omega) (by omega) (by rw [HT.out]; omega) A c T HT.out H.out
        rw [HT.out] at hn
        obtain rfl : q = 0 := by omega
        have HDO := Lib.hid hdo
        have HSE := Lib.hid hse
        have HQN := Lib.hid hqn
        have HBW := Lib.hid (PcIn.below HPC.out)
        have hgl := PcIn.lt HPC.out
        clear hdo hse hn hqn HPC HRQ HRR
        go_wp2_with fail
        refine (HDO.out wr (Below.refl _ _)).mono ?_
        rintro e w5 ⟨rfl, hx⟩
        have HX := Lib.hid hx
        clear hx HDO
        go_wp2_with fail
        refine (HSE.out w5 HX.out).mono ?_
        rintro e w6 ⟨rfl, hb6, hgl6, Ar, cr, pv, xa, xb, xc, xd, xe, sg, hcl6, heq6, hen6⟩
        obtain ⟨y8, y1⟩ := hcl6 w6 (Below.refl _ _)
        have HB6 := Lib.hid hb6
        have HEQ := Lib.hid (heq6 w6 (Below.refl _ _))
        have HEN := Lib.hid (hen6 w6 (Below.refl _ _))
        clear hb6 hcl6 heq6 hen6 HSE HX hgl
        go_wp2_with fail
        refine HEQ.out.mono ?_
        rintro e w7 ⟨rfl, rfl⟩
        clear HEQ
        go_wp2_with fail
        refine HEN.out.mono ?_
        rintro e w8 ⟨rfl, hb8⟩
        have HB8 := Lib.hid (ext_trans HB6.out hb8)
        have qf := end_f5 xa xb xc xd xe true sg w8
        clear hb8 HEN y8 y1 HB6
        go_wp2_with fail
        refine (HAW.out _).mono ?_
        rintro e w9 ⟨rfl, hb9⟩
        have HB9 := Lib.hid (ext_trans HB8.out hb9)
        clear hb9
        go_wp2_with fail
        go_ret
        exact ⟨rfl, HB9.out⟩
      · have hgi : ¬ (i : Int) < 80 := by omega
        obtain ⟨hn, X1, hdo, hse⟩ := HPC.out.closed HI.out.2 (by rw [HT.out]; omega) (by omega) (by omega) (by rw [HT.out]; omega) A c T HT.out H.out
        rw [HT.out] at hn
        obtain rfl : q = 0 := by omega
        have HDO := Lib.hid hdo
        have HSE := Lib.hid hse
        have HQN := Lib.hid hqn
        have HBW := Lib.hid (PcIn.below HPC.out)
        have hgl := PcIn.lt HPC.out
        clear hdo hse hn hqn HPC HRQ HRR
        go_wp2_with fail
        refine (HDO.out wr (Below.refl _ _)).mono ?_
        rintro e w5 ⟨rfl, hx⟩
        have HX := Lib.hid hx
        clear hx HDO
        go_wp2_with fail
        refine (HSE.out w5 HX.out).mono ?_
        rintro e w6 ⟨rfl, hb6, hgl6, Ar, cr, pv, xa, xb, xc, xd, xe, sg, hcl6, heq6, hen6⟩
        obtain ⟨y8, y1⟩ := hcl6 w6 (Below.refl _ _)
        have HB6 := Lib.hid hb6
        have HEQ := Lib.hid (heq6 w6 (Below.refl _ _))
        have HEN := Lib.hid (hen6 w6 (Below.refl _ _))
        clear hb6 hcl6 heq6 hen6 HSE HX hgl
        go_wp2_with fail
        refine HEQ.out.mono ?_
        rintro e w7 ⟨rfl, rfl⟩
        clear HEQ
        go_wp2_with fail
        refine HEN.out.mono ?_
        rintro e w8 ⟨rfl, hb8⟩
        have HB8 := Lib.hid (ext_trans HB6.out hb8)
        have qf := end_f5 xa xb xc xd xe true sg w8
        clear hb8 HEN y8 y1 HB6
        go_wp2_with fail
        refine (HAW.out _).mono ?_
        rintro e w9 ⟨rfl, hb9⟩
        have HB9 := Lib.hid (ext_trans HB8.out hb9)
        clear hb9
        go_wp2_with fail
        go_ret
        exact ⟨rfl, HB9.out⟩
end Go.Proofs.Ytjhnnnklfhbebaa
