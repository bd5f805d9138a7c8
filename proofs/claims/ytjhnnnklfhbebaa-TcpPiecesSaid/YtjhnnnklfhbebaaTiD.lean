/- flumelaw13's comes: the walk (regions 2, 4 printed by gen.py, specs cm2, cm4). -/
import Derived.Test.YtjhnnnklfhbebaaTiC
namespace Go.Proofs.Ytjhnnnklfhbebaa
open Go.RowKit
set_option linter.unusedVariables false
set_option linter.unusedSimpArgs false
namespace PS
def lose (P : PS) (side at_ : Nat) : PS := { P with bag := fset P.bag side ((P.bag side).eraseIdx at_) }
def takes (P : PS) (side : Nat) (x : Pk) : PS := if side = 1 ∧ (P.c 1).state = 0 then { P with c := fset P.c 1 ((TS.accept x P.iss).getD TS.zero) } else { P with c := fset P.c side ((P.c side).take x) }
def comes (P : PS) (side at_ : Nat) (stay : Bool) : PS := (if stay = true then P else P.lose side at_).takes side ((P.bag side).getD at_ Pk.zero)
end PS
/-- An endpoint is nil where no call has made it. -/
def KOk (P : PS) (V : PV) : Prop := ∀ i, i < 2 → (V.k i = none ↔ (P.c i).state = 0)
section
variable {N : Nat → Prop} {l : List Item} {w w' : World} {j : Nat}
/-- The last one in the place of another one. -/
theorem All.repl {K I : Item} (h : All N (l ++ [K]) w) (hj : l[j]? = some I) : All N (l.set j K) w := by
  refine ⟨h.1, fun i J hJ => ?_⟩
  by_cases hij : i = j
  · subst hij
    rw [getElem?_set_at K hj] at hJ
    cases hJ
    refine K.wk (h.2 _ K get_last) fun b _ hb => ?_
    rcases hb with hb | ⟨i2, J2, h2, h3, h4⟩
    · exact .inl hb
    · rw [getElem?_set_ne K h2] at h3
      have := (List.getElem?_eq_some_iff.1 h3).1
      exact .inr ⟨i2, J2, by omega, get_snoc_lt h3, h4⟩
  · rw [getElem?_set_ne K hij] at hJ
    refine J.wk (h.2 i J (get_snoc_lt hJ)) fun b _ hb => ?_
    rcases hb with hb | ⟨i2, J2, h2, h3, h4⟩
    · exact .inl hb
    · by_cases e : i2 = j
      · subst e
        rw [getElem?_set_at K hj] at h3
        cases h3
        have := (List.getElem?_eq_some_iff.1 hJ).1
        exact .inr ⟨l.length, K, by omega, get_last, h4⟩
      · rw [getElem?_set_ne K e] at h3
        exact .inr ⟨i2, J2, h2, get_snoc_lt h3, h4⟩
theorem Goes.repl {K I : Item} {l1 : List Item} {w1 : World} (h : Goes N l w (l1 ++ [K]) w1) (hj : l1[j]? = some I) : Goes N l w (l1.set j K) w1 := by
  refine ⟨h.all.repl hj, h.only, fun b hb => ?_⟩
  rcases any_set ⟨I, hj⟩ hb with e | ⟨i, J, h1, h2⟩
  · exact h.own b ⟨_, K, get_last, e⟩
  · exact h.own b ⟨i, J, get_snoc_lt h1, h2⟩
theorem set_last {l : List Item} {K K' : Item} : (l ++ [K]).set l.length K' = l ++ [K'] := by rw [List.set_append_right _ _ (Nat.le_refl _), Nat.sub_self]; rfl
theorem p_set_new {g : Nat} {P : PS} {V : PV} {kn : Option Nat} {s : TS} {v : Value} : ((pItems g P V).set 0 (Item.bk g 53 ((pCells P V).set 1 (ptr kn)))).set 2 (Item.side kn s v) = pItems g { P with c := fset P.c 1 s } { V with k := fset V.k 1 kn, v := fset V.v 1 v } := rfl
/-- A new endpoint, or none, beside others. -/
def NewKb (N : Nat → Prop) (l : List Item) (S : Nat) (so : Option TS) (v : Value) (W : World) : Prop := ∃ kb vp, v = ptr kb ∧ All N (l ++ [Item.side kb (so.getD TS.zero) vp]) W ∧ (∀ b, (Item.side kb (so.getD TS.zero) vp).own b → S ≤ b) ∧ (kb = none ↔ so = none)
theorem NewKb.mono (N : Nat → Prop) (l : List Item) (S : Nat) (so : Option TS) : Mono (NewKb N l S so) := fun v w1 w2 h ⟨kb, vp, a, b, c, d⟩ => ⟨kb, vp, a, b.ext h, c, d⟩
/-- A row put beside others, all of whose blocks are new. -/
def RowAt (N : Nat → Prop) (l : List Item) (S : Nat) (ps : List Pk) (v : Value) (W : World) : Prop := All N (l ++ [Item.row v ps]) W ∧ ∀ b, v.ownBlock = some b → S ≤ b
theorem RowAt.mono (N : Nat → Prop) (l : List Item) (S : Nat) (ps : List Pk) : Mono (RowAt N l S ps) := fun v w1 w2 h ⟨a, b⟩ => ⟨a.ext h, b⟩
end
theorem take_st {s : TS} (h : s.Ok) (hq : s.Qu) {p : Pk} (hi : TS.PkIn p) : (s.take p).state = 0 ↔ s.state = 0 := by
  have t := took_take h hq hi
  refine ⟨fun e => ?_, fun e => ?_⟩
  · rcases Nat.eq_zero_or_pos s.state with h0 | h0
    · exact h0
    · exact absurd e (t.st (by omega))
  · unfold TS.take
    rw [if_pos (.inl e)]
    exact e
section
variable {N : Nat → Prop} {w : World} {g : Nat} {P : PS} {V : PV}
set_option maxRecDepth 100000 in
set_option maxHeartbeats 2000000 in
theorem comes_calls (h : All N (pItems g P V) w) (hk : KOk P V) (side at_ : Nat) (stay : Bool) (hs : side < 2) (hat : at_ < (P.bag side).length) (hbl : (P.bag side).length ≤ 300) (hiss : P.iss < 4294967296)
    (hok : (P.c side).Ok) (hqu : (P.c side).Qu) (hpk : (P.c side).pack.length ≤ 600000) (hsn : (P.c side).sent ≤ 1000000000000) :
    Calls Try.prog 73 #[.pointer (some ⟨g, 0, none⟩), .int .i64 (side : Int), .int .i64 (at_ : Int), .bool stay] w fun e w' => e = .returned (.tuple #[]) ∧ ∃ V', Goes N (pItems g P V) w (pItems g (P.comes side at_ stay) V') w' ∧ KOk (P.comes side at_ stay) V' := by
  have H := Lib.hid h
  have HKO := Lib.hid hk
  have HOK := Lib.hid (show _ ∧ _ ∧ _ ∧ _ from ⟨hok, hqu, hpk, hsn⟩)
  have HIS := Lib.hid hiss
  have hsi : (side : Int) < 2 := by omega
  have hbk := (h.get 0 p_bk).1
  obtain ⟨A, cap, hvb, hcap, hmax, hA⟩ := row_form' (h.get _ (p_row hs))
  obtain ⟨gb, rfl⟩ := hA (by omega)
  obtain ⟨n, hn⟩ : ∃ n, (P.bag side).length = n := ⟨_, rfl⟩
  have c3 : w.cell? ⟨g, 3 + side, none⟩ = some (.slice (some ⟨gb, 0, none⟩) n cap) := by rw [← hn, ← hvb]; exact hbk.cell (c_row hs)
  obtain ⟨p, hp⟩ : ∃ p, (P.bag side)[at_]? = some p := ⟨_, List.getElem?_eq_getElem hat⟩
  obtain ⟨B, pn, pc, ha⟩ := row_at (h.get _ (p_row hs)) hvb hp
  obtain ⟨q0, q1, q2, q3, q4, q5, q6, q7, q8, q9, q10⟩ : w.cell? ⟨gb, at_ * 11, none⟩ = some (.int .i64 p.src) ∧ w.cell? ⟨gb, at_ * 11 + 1, none⟩ = some (.int .i64 p.dst) ∧ w.cell? ⟨gb, at_ * 11 + 2, none⟩ = some (.int .i64 p.sp) ∧ w.cell? ⟨gb, at_ * 11 + 3, none⟩ = some (.int .i64 p.dp) ∧ w.cell? ⟨gb, at_ * 11 + 4, none⟩ = some (.int .u32 (p.seq : Int)) ∧ w.cell? ⟨gb, at_ * 11 + 5, none⟩ = some (.int .u32 (p.ack : Int)) ∧ w.cell? ⟨gb, at_ * 11 + 6, none⟩ = some (.int .i64 p.fl) ∧ w.cell? ⟨gb, at_ * 11 + 7, none⟩ = some (.int .i64 p.wn) ∧ w.cell? ⟨gb, at_ * 11 + 8, none⟩ = some (.int .i64 p.pr) ∧ w.cell? ⟨gb, at_ * 11 + 9, none⟩ = some (.int .i64 p.og) ∧ w.cell? ⟨gb, at_ * 11 + 10, none⟩ = some (.slice B pn pc) := ⟨ha.c0, ha.c1, ha.c2, ha.c3, ha.c4, ha.c5, ha.c6, ha.c7, ha.c8, ha.c9, ha.c10⟩
  have hai : (at_ : Int) < (n : Int) := by omega
  have HAT := Lib.hid ha
  have HP : Hid ((P.bag side).getD at_ Pk.zero = p) := Lib.hid (by rw [List.getD_eq_getElem?_getD, hp]; rfl)
  have HN := Lib.hid hn
  have HVB := Lib.hid hvb
  have hgl := hbk.lt
  obtain ⟨gx, hgx⟩ : ∃ gx, w.heap.size = gx := ⟨_, rfl⟩
  -- the packet in a box, and its bytes, beside the others
  have HG0 : Hid (Goes N (pItems g P V) w (pItems g P V ++ [Item.bk gx 32 (p.cs B pn pc)] ++ [Item.sl (.slice B pn pc) p.data]) (w.alloc (.cells (p.cs B pn pc).toArray 32))) := Lib.hid (by
    have h1 := Goes.add (K := Item.bk w.heap.size 32 (p.cs B pn pc)) h (ext_alloc w (.cells (p.cs B pn pc).toArray 32)) (fun b hb => Nat.le_of_eq hb.symm) ⟨BK.new _ _ _, fun e => by
      rcases e with e | e
      · have := h.1 _ e
        omega
      · have := h.own_lt _ e
        omega⟩
    have h2 := Goes.add (K := Item.sl (.slice B pn pc) p.data) h1.all (Below.refl _ _) (fun b hb => hb.elim) (by
      refine (⟨B, pc, by rw [ha.len], by rw [ha.len]; exact ha.cap, ha.cmax, ha.rb.ext (ext_alloc _ _), fun h0 b o e hb => ?_⟩ : SlN _ _ _ _)
      obtain ⟨k1, k2⟩ := ha.off (by rw [← ha.len]; exact h0) b o e
      rcases hb with hb | hb
      · exact k1 (.inl hb)
      · rcases any_snoc hb with ⟨i, I, hi, hb⟩ | hb
        · by_cases e3 : i = 3 + side
          · subst e3
            rw [p_row hs] at hi
            cases hi
            exact k2 hb
          · exact k1 (.inr ⟨i, I, e3, hi, hb⟩)
        · obtain ⟨b', o', e', hc⟩ := ha.rb 0 (by omega)
          rw [e] at e'
          injection e' with e'
          injection e' with e5 e6
          subst e5
          have := World.block_lt_of_cell? w _ hc
          have : b = w.heap.size := hb
          simp at *
          omega)
    rw [hgx] at h1 h2
    exact h1.trans h2)
  clear h hk hok hqu hpk hsn hbk hA ha hn hvb hcap hmax hp hiss
  go_enter Try.func73, Try.ntmps73
  go_upto_region 1 with fail
  refine name_world (fun W => Goes N (pItems g P V) w (pItems g P V ++ [Item.bk gx 32 (p.cs B pn pc)] ++ [Item.sl (.slice B pn pc) p.data]) W) HG0.out ?_
  intro w1 hg1
  have HG1 := Lib.hid hg1
  have HGX := Lib.hid hgx
  clear hg1 HG0 hgx c3 q0 q1 q2 q3 q4 q5 q6 q7 q8 q9 q10 hgl
  obtain ⟨P1, hP1⟩ : ∃ P1, (if stay = true then P else P.lose side at_) = P1 := ⟨_, rfl⟩
  have HP1 := Lib.hid hP1
  have HC1 : Hid (P1.c = P.c ∧ P1.iss = P.iss) := Lib.hid (by rw [← hP1]; split <;> exact ⟨rfl, rfl⟩)
  have HCM : Hid (P.comes side at_ stay = P1.takes side p) := Lib.hid (by unfold PS.comes; rw [hP1, HP.out])
  clear hP1
  go_upto_if 19 with fail
  go_cut [] from 20 to 35 (fun wc => Hid (∃ V1, Goes N (pItems g P V) w (pItems g P1 V1 ++ [Item.bk gx 32 (p.cs B pn pc)] ++ [Item.sl (.slice B pn pc) p.data]) wc ∧ V1.k = V.k))
  case first =>
    cases stay with
    | true =>
      have HX : Hid (P = P1) := Lib.hid (by rw [← HP1.out]; rfl)
      go_wp2_with fail
      go_meet
      case rel => exact Lib.hid ⟨V, by rw [← HX.out]; exact HG1.out, rfl⟩
    | false =>
      have HX : Hid (P.lose side at_ = P1) := Lib.hid (by rw [← HP1.out]; rfl)
      go_upto_region 2 with fail
      obtain ⟨L7, hL7⟩ : ∃ L7, pItems g P V ++ [Item.bk gx 32 (p.cs B pn pc)] ++ [Item.sl (.slice B pn pc) p.data] = L7 := ⟨_, rfl⟩
      have ha1 := HG1.out.all
      rw [hL7] at ha1
      have hb0 : L7[0]? = some (Item.bk g 53 (pCells P V)) := by rw [← hL7]; exact get_snoc_lt (get_snoc_lt p_bk)
      have hr0 : L7[3 + side]? = some (Item.row (.slice (some ⟨gb, 0, none⟩) n cap) (P.bag side)) := by rw [← hL7, ← HN.out, ← HVB.out]; exact get_snoc_lt (get_snoc_lt (p_row hs))
      have hbk := (ha1.get 0 hb0).1
      have HCG : Hid (∀ W : World, Below w1.heap.size w1 W → W.cell? ⟨g, 3 + side, none⟩ = some (.slice (some ⟨gb, 0, none⟩) n cap) ∧ W.frozen? ⟨g, 3 + side, none⟩ = false) := Lib.hid fun W hW => by
        have hk := hbk.ext hW
        refine ⟨?_, hk.frozen _⟩
        rw [← HN.out, ← HVB.out]
        exact hk.cell (c_row hs)
      have HCLN : Hid (∀ W : World, Below w1.heap.size w1 W → Calls Try.prog 72 #[.slice (some ⟨gb, 0, none⟩) n cap] W fun e w' => ∃ v', e = .returned v' ∧ Below W.heap.size W w' ∧ RowAt N L7 w1.heap.size (P.bag side) v' w') := Lib.hid fun W hW => by
        refine (clonePk_calls (ha1.ext hW) hr0 (by omega)).mono ?_
        rintro e w' ⟨v', rfl, hb, ha, ho⟩
        exact ⟨v', rfl, hb, ha, fun b hb => Nat.le_trans hW.size (ho b hb)⟩
      have HFIN : Hid (∀ (W : World) (v : Value), Below w1.heap.size w1 W → RowAt N L7 w1.heap.size ((P.bag side).eraseIdx at_) v W → ∃ V1, Goes N L7 w1 (pItems g P1 V1 ++ [Item.bk gx 32 (p.cs B pn pc)] ++ [Item.sl (.slice B pn pc) p.data]) (W.setCell ⟨g, 3 + side, none⟩ v) ∧ V1.k = V.k) := Lib.hid fun W v hW hv => by
        have h1 : Goes N L7 w1 (L7 ++ [Item.row v ((P.bag side).eraseIdx at_)]) W := ⟨hv.1, Only.of_below hW, fun b hb => (any_snoc hb).imp id (hv.2 b)⟩
        have h2 := h1.trans (Goes.bk h1.all (get_snoc_lt hb0) (3 + side) v)
        rw [set_snoc hb0] at h2
        have hr1 : (L7.set 0 (Item.bk g 53 ((pCells P V).set (3 + side) v)))[3 + side]? = some (Item.row (.slice (some ⟨gb, 0, none⟩) n cap) (P.bag side)) := by rw [getElem?_set_ne _ (by omega)]; exact hr0
        have h3 := h2.repl hr1
        rw [set_set_ne (by omega)] at h3
        refine ⟨{ V with b := fset V.b side v }, ?_, rfl⟩
        have e := p_set_row (g := g) (P := P) (V := V) hs v ((P.bag side).eraseIdx at_)
        have e1 : L7.set (3 + side) (Item.row v ((P.bag side).eraseIdx at_)) = (pItems g P V).set (3 + side) (Item.row v ((P.bag side).eraseIdx at_)) ++ [Item.bk gx 32 (p.cs B pn pc)] ++ [Item.sl (.slice B pn pc) p.data] := by
          rw [← hL7, set_snoc (get_snoc_lt (p_row hs)), set_snoc (p_row hs)]
        have hb2 : ((pItems g P V).set (3 + side) (Item.row v ((P.bag side).eraseIdx at_)))[0]? = some (Item.bk g 53 (pCells P V)) := by rw [getElem?_set_ne _ (by omega)]; rfl
        rw [e1, set_snoc (get_snoc_lt hb2), set_snoc hb2, e] at h3
        rw [← HX.out]
        exact h3
      have HL7 := Lib.hid hL7
      obtain ⟨a1, haa⟩ : ∃ a1, at_ + 1 = a1 := ⟨_, rfl⟩
      have hwa : IntKind.i64.wrap ((at_ : Int) + 1) = (a1 : Int) := by rw [IntWalk.i64_in _ (by omega)]; omega
      have HA1 := Lib.hid haa
      have hgl := hbk.lt
      clear hL7 ha1 hb0 hr0 hbk haa
      refine wp_region_new [[], [], [], [], [2], [2, 4], [2, 3, 4, 5], [2, 3, 4, 5, 6], [2, 3, 4, 5, 6, 7], [], [], [10], [2, 3, 4, 5, 6, 7, 8, 9, 10, 11], [0], [0, 13], [0, 1, 13, 14], [0, 1, 2, 3, 4, 5, 6, 7, 8, 9, 10, 11, 12, 13, 14, 15]]
        [fun u _ => u = .pointer (some ⟨g, 0, none⟩),
         fun u _ => u = .int .i64 (side : Int),
         fun u _ => u = .pointer (some ⟨g, 0, none⟩),
         fun u _ => u = .int .i64 (side : Int),
         fun u _ => u = .pointer (some ⟨g, 0, none⟩),
         fun u _ => u = .pointer (some ⟨g, 3, none⟩),
         fun u _ => u = .pointer (some ⟨g, 3 + side, none⟩),
         fun u _ => u = .slice (some ⟨gb, 0, none⟩) n cap,
         fun u w => RowAt N L7 w1.heap.size (P.bag side) u w,
         fun u _ => u = .int .i64 (at_ : Int),
         fun u _ => u = .int .i64 (at_ : Int),
         fun u _ => u = .int .i64 (a1 : Int),
         fun u w => RowAt N L7 w1.heap.size ((P.bag side).eraseIdx at_) u w,
         fun u _ => u = .pointer (some ⟨g, 0, none⟩),
         fun u _ => u = .pointer (some ⟨g, 3, none⟩),
         fun u _ => u = .pointer (some ⟨g, 3 + side, none⟩)]
        (fun u => ⟨#[Value.pointer (some { block := g, off := 0 }), Value.int IntKind.i64 (side : Int), Value.int IntKind.i64 (at_ : Int), Value.bool false, undef, undef, undef, undef, Value.pointer (some { block := gx, off := 0 }), Value.pointer (some { block := g, off := 0 }), Value.int IntKind.i64 (side : Int), Value.pointer (some { block := g, off := 0 }), Value.pointer (some { block := g, off := 3 }), Value.pointer (some { block := g, off := 3 + side }), Value.slice (some { block := gb, off := 0 }) n cap, Value.int IntKind.i64 (at_ : Int), Value.pointer (some { block := gb, off := at_ * 11 }), Value.agg #[Value.int IntKind.i64 p.src, Value.int IntKind.i64 p.dst, Value.int IntKind.i64 p.sp, Value.int IntKind.i64 p.dp, Value.int IntKind.u32 (p.seq : Int), Value.int IntKind.u32 (p.ack : Int), Value.int IntKind.i64 p.fl, Value.int IntKind.i64 p.wn, Value.int IntKind.i64 p.pr, Value.int IntKind.i64 p.og, Value.slice B pn pc], Value.bool false, Value.bool !false, u 0, u 1, u 2, u 3, u 4, u 5, u 6, u 7, u 8, u 9, u 10, u 11, u 12, u 13, u 14, u 15, undef, undef, undef, undef, undef, undef, undef, undef, undef, undef, undef, undef, undef, undef, undef, undef, undef, undef, undef, undef, undef, undef, undef, undef, undef, undef, undef, undef], []⟩)
        (fun W => Below w1.heap.size w1 W) (fun _ => True) [8] 12 16 (fun _ W => ∃ V1, Goes N L7 w1 (pItems g P1 V1 ++ [Item.bk gx 32 (p.cs B pn pc)] ++ [Item.sl (.slice B pn pc) p.data]) W ∧ V1.k = V.k) (fun j => [undef, undef, undef, undef, undef, undef, undef, undef, undef, undef, undef, undef, undef, undef, undef, undef, undef].getD j undef) (by kernel_rfl) (by kernel_rfl) (by kernel_rfl) rfl (by kernel_rfl) (Nat.le_of_eq rfl) ⟨Mono.eq _, Mono.eq _, Mono.eq _, Mono.eq _, Mono.eq _, Mono.eq _, Mono.eq _, Mono.eq _, RowAt.mono _ _ _ _, Mono.eq _, Mono.eq _, Mono.eq _, RowAt.mono _ _ _ _, Mono.eq _, Mono.eq _, Mono.eq _, trivial⟩ ⟨.inr (.inr (.inr (MonoS.eq _ _))), ⟨.inr (.inr (.inr (MonoS.eq _ _))), ⟨.inr (.inr (.inr (MonoS.eq _ _))), ⟨.inr (.inr (.inr (MonoS.eq _ _))), ⟨.inr (.inr (.inr (MonoS.eq _ _))), ⟨.inr (.inr (.inr (MonoS.eq _ _))), ⟨.inr (.inr (.inr (MonoS.eq _ _))), ⟨.inr (.inr (.inr (MonoS.eq _ _))), ⟨.inr (.inr (.inl rfl)), ⟨.inr (.inr (.inr (MonoS.eq _ _))), ⟨.inr (.inr (.inr (MonoS.eq _ _))), ⟨.inr (.inr (.inr (MonoS.eq _ _))), ⟨.inl rfl, ⟨.inr (.inr (.inr (MonoS.eq _ _))), ⟨.inr (.inr (.inr (MonoS.eq _ _))), ⟨.inr (.inr (.inr (MonoS.eq _ _))), trivial⟩⟩⟩⟩⟩⟩⟩⟩⟩⟩⟩⟩⟩⟩⟩⟩
        (fun _ _ _ h => h) (fun _ _ _ h => h) ((Below.refl _ _).drew) (trivial) ?_ ?_
      · refine ⟨?_, ?_, ?_, ?_, ?_, ?_, ?_, ?_, ?_, ?_, ?_, ?_, ?_, ?_, ?_, ?_, ?_, trivial⟩
        · intro u w2 hb hS hG hF hU J K hJ hK
          have HB2 := Lib.hid hb
          have HS2 := Lib.hid hS
          have HG2 := Lib.hid hG
          have HF := Lib.hid hF
          clear hb hF hS hG hU
          go_wp2
          exact hJ _ _ _ (Nat.le_refl _) (fun _ => ⟨HB2.out, fun _ => Below.refl _ _, fun h => absurd h (by decide), rfl⟩) (fun h => absurd h (by decide)) (by simp [setU] <;> omega)
        · intro u w2 hb hS hG hF hU J K hJ hK
          have HB2 := Lib.hid hb
          have HS2 := Lib.hid hS
          have HG2 := Lib.hid hG
          have HF := Lib.hid hF
          clear hb hF hS hG hU
          go_wp2
          exact hJ _ _ _ (Nat.le_refl _) (fun _ => ⟨HB2.out, fun _ => Below.refl _ _, fun h => absurd h (by decide), rfl⟩) (fun h => absurd h (by decide)) (by simp [setU] <;> omega)
        · intro u w2 hb hS hG hF hU J K hJ hK
          have HB2 := Lib.hid hb
          have HS2 := Lib.hid hS
          have HG2 := Lib.hid hG
          have HF := Lib.hid hF
          clear hb hF hS hG hU
          go_wp2
          exact hJ _ _ _ (Nat.le_refl _) (fun _ => ⟨HB2.out, fun _ => Below.refl _ _, fun h => absurd h (by decide), rfl⟩) (fun h => absurd h (by decide)) (by simp [setU] <;> omega)
        · intro u w2 hb hS hG hF hU J K hJ hK
          have HB2 := Lib.hid hb
          have HS2 := Lib.hid hS
          have HG2 := Lib.hid hG
          have HF := Lib.hid hF
          clear hb hF hS hG hU
          go_wp2
          exact hJ _ _ _ (Nat.le_refl _) (fun _ => ⟨HB2.out, fun _ => Below.refl _ _, fun h => absurd h (by decide), rfl⟩) (fun h => absurd h (by decide)) (by simp [setU] <;> omega)
        · intro u w2 hb hS hG hF hU J K hJ hK
          have HB2 := Lib.hid hb
          have HS2 := Lib.hid hS
          have HG2 := Lib.hid hG
          have HF := Lib.hid hF
          clear hb hF hS hG hU
          have f2 : u 2 = .pointer (some ⟨g, 0, none⟩) := HF.out 2 (by decide) (by decide)
          go_wp2
          exact hJ _ _ _ (Nat.le_refl _) (fun _ => ⟨HB2.out, fun _ => Below.refl _ _, fun h => absurd h (by decide), rfl⟩) (fun h => absurd h (by decide)) (by simp [setU, f2] <;> omega)
        · intro u w2 hb hS hG hF hU J K hJ hK
          have HB2 := Lib.hid hb
          have HS2 := Lib.hid hS
          have HG2 := Lib.hid hG
          have HF := Lib.hid hF
          clear hb hF hS hG hU
          have f4 : u 4 = .pointer (some ⟨g, 0, none⟩) := HF.out 4 (by decide) (by decide)
          go_wp2
          exact hJ _ _ _ (Nat.le_refl _) (fun _ => ⟨HB2.out, fun _ => Below.refl _ _, fun h => absurd h (by decide), rfl⟩) (fun h => absurd h (by decide)) (by simp [setU, f4] <;> omega)
        · intro u w2 hb hS hG hF hU J K hJ hK
          have HB2 := Lib.hid hb
          have HS2 := Lib.hid hS
          have HG2 := Lib.hid hG
          have HF := Lib.hid hF
          clear hb hF hS hG hU
          have f3 : u 3 = .int .i64 (side : Int) := HF.out 3 (by decide) (by decide)
          have f5 : u 5 = .pointer (some ⟨g, 3, none⟩) := HF.out 5 (by decide) (by decide)
          go_wp2
          exact hJ _ _ _ (Nat.le_refl _) (fun _ => ⟨HB2.out, fun _ => Below.refl _ _, fun h => absurd h (by decide), rfl⟩) (fun h => absurd h (by decide)) (by simp [setU, f3, f5] <;> omega)
        · intro u w2 hb hS hG hF hU J K hJ hK
          have HB2 := Lib.hid hb
          have HS2 := Lib.hid hS
          have HG2 := Lib.hid hG
          have HF := Lib.hid hF
          clear hb hF hS hG hU
          have f6 : u 6 = .pointer (some ⟨g, 3 + side, none⟩) := HF.out 6 (by decide) (by decide)
          have cc := (HCG.out w2 HB2.out).1
          go_wp2
          exact hJ _ _ _ (Nat.le_refl _) (fun _ => ⟨HB2.out, fun _ => Below.refl _ _, fun h => absurd h (by decide), rfl⟩) (fun h => absurd h (by decide)) (by simp [setU, f6] <;> omega)
        · intro u w2 hb hS hG hF hU J K hJ hK
          have HB2 := Lib.hid hb
          have HS2 := Lib.hid hS
          have HG2 := Lib.hid hG
          have HF := Lib.hid hF
          clear hb hF hS hG hU
          have f7 : u 7 = .slice (some ⟨gb, 0, none⟩) n cap := HF.out 7 (by decide) (by decide)
          go_wp2_with (go_at_call 72; refine (HCLN.out w2 HB2.out).mono ?_; rintro e w3 ⟨v3, rfl, hb, ha⟩)
          have HA3 := Lib.hid ha; have HB3 := Lib.hid hb; clear ha hb
          exact hJ _ _ _ (HB3.out.size) (fun _ => ⟨HB2.out.trans (HB3.out.mono HS2.out), fun _ => HB3.out, fun h => absurd h (by decide), HA3.out⟩) (fun h => absurd h (by decide)) (by simp [setU, f7] <;> omega)
        · intro u w2 hb hS hG hF hU J K hJ hK
          have HB2 := Lib.hid hb
          have HS2 := Lib.hid hS
          have HG2 := Lib.hid hG
          have HF := Lib.hid hF
          clear hb hF hS hG hU
          go_wp2
          exact hJ _ _ _ (Nat.le_refl _) (fun _ => ⟨HB2.out, fun _ => Below.refl _ _, fun h => absurd h (by decide), rfl⟩) (fun h => absurd h (by decide)) (by simp [setU] <;> omega)
        · intro u w2 hb hS hG hF hU J K hJ hK
          have HB2 := Lib.hid hb
          have HS2 := Lib.hid hS
          have HG2 := Lib.hid hG
          have HF := Lib.hid hF
          clear hb hF hS hG hU
          go_wp2
          exact hJ _ _ _ (Nat.le_refl _) (fun _ => ⟨HB2.out, fun _ => Below.refl _ _, fun h => absurd h (by decide), rfl⟩) (fun h => absurd h (by decide)) (by simp [setU] <;> omega)
        · intro u w2 hb hS hG hF hU J K hJ hK
          have HB2 := Lib.hid hb
          have HS2 := Lib.hid hS
          have HG2 := Lib.hid hG
          have HF := Lib.hid hF
          clear hb hF hS hG hU
          have f10 : u 10 = .int .i64 (at_ : Int) := HF.out 10 (by decide) (by decide)
          go_wp2
          exact hJ _ _ _ (Nat.le_refl _) (fun _ => ⟨HB2.out, fun _ => Below.refl _ _, fun h => absurd h (by decide), rfl⟩) (fun h => absurd h (by decide)) (by simp [setU, f10] <;> omega)
        · intro u w2 hb hS hG hF hU J K hJ hK
          have HB2 := Lib.hid hb
          have HS2 := Lib.hid hS
          have HG2 := Lib.hid hG
          have HF := Lib.hid hF
          clear hb hF hS hG hU
          have f9 : u 9 = .int .i64 (at_ : Int) := HF.out 9 (by decide) (by decide)
          have f11 : u 11 = .int .i64 (a1 : Int) := HF.out 11 (by decide) (by decide)
          obtain ⟨hra, hrb⟩ := HF.out 8 (by decide) (by decide)
          have HRA := Lib.hid hra
          have HRB := Lib.hid hrb
          have HDL := Lib.hid (deletePk_calls hra get_last at_ hat (by omega))
          rw [HA1.out] at HDL
          obtain ⟨v8, f8⟩ : ∃ v8, u 8 = v8 := ⟨_, rfl⟩
          rw [f8] at HRA HRB HDL
          have HV8 := Lib.hid f8
          clear hra hrb
          dsimp only
          rw [f9, f11, f8]
          clear f8
          go_wp2_with (go_at_call 71; refine HDL.out.mono ?_; rintro e w3 ⟨v3, rfl, hv3, ho3, ha3⟩)
          have HV3 := Lib.hid hv3; have HO3 := Lib.hid ho3; have HA3 := Lib.hid ha3; clear hv3 ho3 ha3
          have HBB : Hid (Below w1.heap.size w2 w3) := Lib.hid (HO3.out.below (Below.refl _ _) HS2.out fun b hb => HRB.out b hb)
          have f8 := HV8.out
          exact hJ _ _ _ (HO3.out.size) (fun _ => ⟨HB2.out.trans HBB.out, fun h => absurd rfl h, fun _ => HBB.out, ⟨by rw [← set_last]; exact HA3.out, fun b hb => HRB.out b (HV3.out ▸ hb)⟩⟩) (fun h => absurd h (by decide)) (by simp [setU, f8, f9, f11] <;> omega)
        · intro u w2 hb hS hG hF hU J K hJ hK
          have HB2 := Lib.hid hb
          have HS2 := Lib.hid hS
          have HG2 := Lib.hid hG
          have HF := Lib.hid hF
          clear hb hF hS hG hU
          have f0 : u 0 = .pointer (some ⟨g, 0, none⟩) := HF.out 0 (by decide) (by decide)
          go_wp2
          exact hJ _ _ _ (Nat.le_refl _) (fun _ => ⟨HB2.out, fun _ => Below.refl _ _, fun h => absurd h (by decide), rfl⟩) (fun h => absurd h (by decide)) (by simp [setU, f0] <;> omega)
        · intro u w2 hb hS hG hF hU J K hJ hK
          have HB2 := Lib.hid hb
          have HS2 := Lib.hid hS
          have HG2 := Lib.hid hG
          have HF := Lib.hid hF
          clear hb hF hS hG hU
          have f13 : u 13 = .pointer (some ⟨g, 0, none⟩) := HF.out 13 (by decide) (by decide)
          go_wp2
          exact hJ _ _ _ (Nat.le_refl _) (fun _ => ⟨HB2.out, fun _ => Below.refl _ _, fun h => absurd h (by decide), rfl⟩) (fun h => absurd h (by decide)) (by simp [setU, f13] <;> omega)
        · intro u w2 hb hS hG hF hU J K hJ hK
          have HB2 := Lib.hid hb
          have HS2 := Lib.hid hS
          have HG2 := Lib.hid hG
          have HF := Lib.hid hF
          clear hb hF hS hG hU
          have f1 : u 1 = .int .i64 (side : Int) := HF.out 1 (by decide) (by decide)
          have f14 : u 14 = .pointer (some ⟨g, 3, none⟩) := HF.out 14 (by decide) (by decide)
          go_wp2
          exact hJ _ _ _ (Nat.le_refl _) (fun _ => ⟨HB2.out, fun _ => Below.refl _ _, fun h => absurd h (by decide), rfl⟩) (fun h => absurd h (by decide)) (by simp [setU, f1, f14] <;> omega)
        · intro u w2 hb hS hG hF hU J K hJ hK
          have HB2 := Lib.hid hb
          have HS2 := Lib.hid hS
          have HG2 := Lib.hid hG
          have HF := Lib.hid hF
          clear hb hF hS hG hU
          have f15 : u 15 = .pointer (some ⟨g, 3 + side, none⟩) := HF.out 15 (by decide) (by decide)
          have hp7 := HF.out 12 (by decide) (by decide)
          obtain ⟨A7, c7, f12, _⟩ := row_form' (hp7.1.get _ get_last)
          have HP7 : Hid (RowAt N L7 w1.heap.size ((P.bag side).eraseIdx at_) (u 12) w2) := Lib.hid hp7
          rw [f12] at HP7
          have cc := (HCG.out w2 HB2.out).1
          have ff := (HCG.out w2 HB2.out).2
          clear hp7
          dsimp only
          rw [f12, f15]
          go_wp2
          exact hJ undef _ _ ((by simp [World.setCell])) (fun h => absurd rfl h) (fun _ => HFIN.out w2 _ HB2.out HP7.out) (by simp [setU, f12, f15] <;> omega)
      · intro u w2 hS hFL
        have HS2 := Lib.hid hS
        have HFL := Lib.hid hFL
        clear hS hFL
        have HFL2 := Lib.hid HFL.out
        clear HFL
        try dsimp only
        go_wp2_with fail
        go_meet
        case rel => exact Lib.hid (by
         obtain ⟨V1, hg, hk⟩ := HFL2.out
         exact ⟨V1, HG1.out.trans (HL7.out ▸ hg), hk⟩)
  case rest =>
    obtain ⟨V1, hg2, hk1⟩ := hcut.out
    obtain ⟨w2, rfl⟩ : ∃ w2, w2 = wc := ⟨_, rfl⟩
    have hbk2 := (hg2.all.get 0 (get_snoc_lt (get_snoc_lt p_bk))).1
    have hx2 := (hg2.all.get 9 (get_snoc_lt (show (pItems g P1 V1 ++ [Item.bk gx 32 (p.cs B pn pc)])[9]? = some (Item.bk gx 32 (p.cs B pn pc)) from rfl))).1
    have hsl2 : SlN _ w2 (.slice B pn pc) p.data := hg2.all.get 10 (show (pItems g P1 V1 ++ [Item.bk gx 32 (p.cs B pn pc)] ++ [Item.sl (.slice B pn pc) p.data])[10]? = some (Item.sl (.slice B pn pc) p.data) from rfl)
    have HG2 := Lib.hid hg2
    have HK1 := Lib.hid hk1
    have HBK2 := Lib.hid hbk2
    have HX2 := Lib.hid hx2
    have HSL2 := Lib.hid hsl2
    have hgl2 := hbk2.lt
    have hxl2 := hx2.lt
    clear hcut HG1 hg2 hk1 hbk2 hx2 hsl2
    by_cases hacc : side = 1 ∧ V1.k 1 = none
    · obtain ⟨rfl, hk0⟩ := hacc
      have c1 : w2.cell? ⟨g, 1, none⟩ = some (.pointer none) := by
        have := HBK2.out.cell (c_ptr (i := 1) (P := P1) (V := V1) (by omega))
        rw [hk0] at this
        exact this
      have HKN := Lib.hid hk0
      clear hk0
      go_upto_region 4 with fail
      obtain ⟨wa, rfl⟩ : ∃ wa, wa = w2 := ⟨_, rfl⟩
      have hz : (P1.c 1).state = 0 := by rw [HC1.out.1]; exact (HKO.out 1 (by omega)).1 (by rw [← HK1.out]; exact HKN.out)
      obtain ⟨so, hso⟩ : ∃ so, TS.accept p P1.iss = so := ⟨_, rfl⟩
      obtain ⟨iss, hie⟩ : ∃ iss, P1.iss = iss := ⟨_, rfl⟩
      have hi32 : iss < 4294967296 := by rw [← hie, HC1.out.2]; exact HIS.out
      have HIE := Lib.hid hie
      have HCM2 : Hid (P.comes 1 at_ stay = { P1 with c := fset P1.c 1 (so.getD TS.zero) }) := Lib.hid (by rw [HCM.out]; unfold PS.takes; rw [if_pos ⟨rfl, hz⟩, hso])
      obtain ⟨L8, hL8⟩ : ∃ L8, pItems g P1 V1 ++ [Item.bk gx 32 (p.cs B pn pc)] ++ [Item.sl (.slice B pn pc) p.data] = L8 := ⟨_, rfl⟩
      have ha2 := HG2.out.all
      rw [hL8] at ha2
      have HA2 := Lib.hid ha2
      have HAC : Hid (∀ W : World, Below wa.heap.size wa W → Calls Try.prog 38 #[.agg (p.cs B pn pc).toArray, .int .u32 (iss : Int)] W fun e W' => ∃ v, e = .returned v ∧ Below W.heap.size W W' ∧ NewKb N L8 wa.heap.size so v W') := Lib.hid fun W hW => by
        refine (all_accept (HA2.out.ext hW) p B pn pc HAT.out.len HAT.out.inn iss hi32).mono ?_
        rintro e W' ⟨hb, kb, vp, rfl, ha, ho, hn⟩
        rw [← hie, hso] at ha ho hn
        exact ⟨_, rfl, hb, kb, vp, rfl, ha, fun b hb2 => Nat.le_trans hW.size (ho b hb2), hn⟩
      have hst : (so.getD TS.zero).state = 0 ↔ so = none := by
        cases so with
        | none => exact ⟨fun _ => rfl, fun _ => rfl⟩
        | some s =>
          have := (TS.accept_fine HAT.out.inn (by rw [HC1.out.2]; exact HIS.out) hso).2.1
          exact ⟨fun e => by have e : s.state = 0 := e; omega, fun e => by cases e⟩
      have HFIN : Hid (∀ (W : World) (kn : Option Nat) (vn : Value), Below wa.heap.size wa W → All N (L8 ++ [Item.side kn (so.getD TS.zero) vn]) W → (∀ b, (Item.side kn (so.getD TS.zero) vn).own b → wa.heap.size ≤ b) → (kn = none ↔ so = none) → ∃ V4, Goes N L8 wa (pItems g { P1 with c := fset P1.c 1 (so.getD TS.zero) } V4 ++ [Item.bk gx 32 (p.cs B pn pc)] ++ [Item.sl (.slice B pn pc) p.data]) (W.setCell ⟨g, 1, none⟩ (.pointer (kn.map fun k => ⟨k, 0, none⟩))) ∧ KOk { P1 with c := fset P1.c 1 (so.getD TS.zero) } V4) := Lib.hid fun W kn vn hW ha ho hn => by
        have hb0 : L8[0]? = some (Item.bk g 53 (pCells P1 V1)) := by rw [← hL8]; exact get_snoc_lt (get_snoc_lt p_bk)
        have h1 : Goes N L8 wa (L8 ++ [Item.side kn (so.getD TS.zero) vn]) W := ⟨ha, Only.of_below hW, fun b hb => (any_snoc hb).imp id (ho b)⟩
        have h2 := h1.trans (Goes.bk h1.all (get_snoc_lt hb0) 1 (ptr kn))
        rw [set_snoc hb0] at h2
        have hr0 : L8[2]? = some (Item.side (V1.k 1) (P1.c 1) (V1.v 1)) := by rw [← hL8]; exact get_snoc_lt (get_snoc_lt (p_side (i := 1) (by omega)))
        have hr1 : (L8.set 0 (Item.bk g 53 ((pCells P1 V1).set 1 (ptr kn))))[2]? = some (Item.side (V1.k 1) (P1.c 1) (V1.v 1)) := by rw [getElem?_set_ne _ (by omega)]; exact hr0
        have hr2 : ((pItems g P1 V1).set 0 (Item.bk g 53 ((pCells P1 V1).set 1 (ptr kn))))[2]? = some (Item.side (V1.k 1) (P1.c 1) (V1.v 1)) := rfl
        have h3 := h2.repl hr1
        rw [← hL8, set_snoc (get_snoc_lt p_bk), set_snoc p_bk, set_snoc (get_snoc_lt hr2), set_snoc hr2, p_set_new] at h3
        refine ⟨{ V1 with k := fset V1.k 1 kn, v := fset V1.v 1 vn }, by rw [← hL8]; exact h3, fun i hi => ?_⟩
        show fset V1.k 1 kn i = none ↔ (fset P1.c 1 (so.getD TS.zero) i).state = 0
        by_cases e : i = 1
        · subst e
          rw [fset_at, fset_at, hst]
          exact hn
        · rw [fset_no _ _ e, fset_no _ _ e, HK1.out, HC1.out.1]
          exact HKO.out i hi
      have HL8 := Lib.hid hL8
      clear hso hie ha2 hL8 hz hst
      simp only [Pk.cs] at HAC
      refine wp_region_fin [[], [], [], [2], [2, 3], [2, 3, 4], [1, 2, 3, 4, 5], [0], [0, 7], [0, 1, 2, 3, 4, 5, 6, 7, 8], [0, 1, 2, 3, 4, 5, 6, 7, 8, 9]]
        [fun u _ => u = .pointer (some ⟨g, 0, none⟩),
         fun u _ => u = .agg #[.int .i64 p.src, .int .i64 p.dst, .int .i64 p.sp, .int .i64 p.dp, .int .u32 (p.seq : Int), .int .u32 (p.ack : Int), .int .i64 p.fl, .int .i64 p.wn, .int .i64 p.pr, .int .i64 p.og, .slice B pn pc],
         fun u _ => u = .pointer (some ⟨g, 0, none⟩),
         fun u _ => u = .pointer (some ⟨g, 0, none⟩),
         fun u _ => u = .pointer (some ⟨g, 2, none⟩),
         fun u _ => u = .int .u32 (iss : Int),
         fun u w => NewKb N L8 wa.heap.size so u w,
         fun u _ => u = .pointer (some ⟨g, 0, none⟩),
         fun u _ => u = .pointer (some ⟨g, 0, none⟩),
         fun u _ => u = .pointer (some ⟨g, 1, none⟩)]
        (fun u => ⟨#[Value.pointer (some { block := g, off := 0 }), Value.int IntKind.i64 ((1 : Nat) : Int), Value.int IntKind.i64 (at_ : Int), Value.bool stay, undef, undef, undef, undef, Value.pointer (some { block := gx, off := 0 }), Value.pointer (some { block := g, off := 0 }), Value.int IntKind.i64 ((1 : Nat) : Int), Value.pointer (some { block := g, off := 0 }), Value.pointer (some { block := g, off := 3 }), Value.pointer (some { block := g, off := 3 + 1 }), Value.slice (some { block := gb, off := 0 }) n cap, Value.int IntKind.i64 (at_ : Int), Value.pointer (some { block := gb, off := at_ * 11 }), Value.agg #[Value.int IntKind.i64 p.src, Value.int IntKind.i64 p.dst, Value.int IntKind.i64 p.sp, Value.int IntKind.i64 p.dp, Value.int IntKind.u32 (p.seq : Int), Value.int IntKind.u32 (p.ack : Int), Value.int IntKind.i64 p.fl, Value.int IntKind.i64 p.wn, Value.int IntKind.i64 p.pr, Value.int IntKind.i64 p.og, Value.slice B pn pc], Value.bool stay, Value.bool !stay, u20, u21, u22, u23, u24, u25, u26, u27, u28, u29, u30, u31, u32, u33, u34, u35, Value.int IntKind.i64 ((1 : Nat) : Int), Value.bool true, Value.bool true, Value.pointer (some { block := g, off := 0 }), Value.pointer (some { block := g, off := 0 }), Value.pointer (some { block := g, off := 0 }), Value.pointer (some { block := g, off := 1 }), Value.pointer none, Value.bool true, Value.bool true, u 0, u 1, u 2, u 3, u 4, u 5, u 6, u 7, u 8, u 9, undef, undef, undef, undef, undef, undef, undef, undef], []⟩)
        (fun W => Below wa.heap.size wa W) (fun _ => True) none 6 10 (fun _ W => ∃ V4, Goes N L8 wa (pItems g { P1 with c := fset P1.c 1 (so.getD TS.zero) } V4 ++ [Item.bk gx 32 (p.cs B pn pc)] ++ [Item.sl (.slice B pn pc) p.data]) W ∧ KOk { P1 with c := fset P1.c 1 (so.getD TS.zero) } V4) (fun j => [undef, undef, undef, undef, undef, undef, undef, undef, undef, undef, undef].getD j undef) (by kernel_rfl) (by kernel_rfl) (by kernel_rfl) rfl (by kernel_rfl) (Nat.le_of_eq rfl) ⟨Mono.eq _, Mono.eq _, Mono.eq _, Mono.eq _, Mono.eq _, Mono.eq _, NewKb.mono _ _ _ _, Mono.eq _, Mono.eq _, Mono.eq _, trivial⟩ ⟨.inr (.inr (MonoRow.eq _ _)), ⟨.inr (.inr (MonoRow.eq _ _)), ⟨.inr (.inr (MonoRow.eq _ _)), ⟨.inr (.inr (MonoRow.eq _ _)), ⟨.inr (.inr (MonoRow.eq _ _)), ⟨.inr (.inr (MonoRow.eq _ _)), ⟨.inl rfl, ⟨.inr (.inr (MonoRow.eq _ _)), ⟨.inr (.inr (MonoRow.eq _ _)), ⟨.inr (.inr (MonoRow.eq _ _)), trivial⟩⟩⟩⟩⟩⟩⟩⟩⟩⟩
        (fun _ _ _ h => h) (fun _ _ _ h => h) ((Below.refl _ _).drew) (trivial) ?_ ?_
      · refine ⟨?_, ?_, ?_, ?_, ?_, ?_, ?_, ?_, ?_, ?_, ?_, trivial⟩
        · intro u w2 hb hS hG hF hU J K hJ hK
          have HB2 := Lib.hid hb
          have HS2 := Lib.hid hS
          have HG2 := Lib.hid hG
          have HF := Lib.hid hF
          clear hb hF hS hG hU
          go_wp2
          exact hJ _ _ _ (Nat.le_refl _) (fun _ => ⟨HB2.out, fun _ => Below.refl _ _, fun h => absurd h (by decide), rfl⟩) (fun h => absurd h (by decide)) (by simp [setU] <;> omega)
        · intro u w2 hb hS hG hF hU J K hJ hK
          have HB2 := Lib.hid hb
          have HS2 := Lib.hid hS
          have HG2 := Lib.hid hG
          have HF := Lib.hid hF
          clear hb hF hS hG hU
          have HKW := Lib.hid (HX2.out.ext HB2.out)
          have q0 := HKW.out.cell (i := 0) rfl
          have q1 := HKW.out.cell (i := 1) rfl
          have q2 := HKW.out.cell (i := 2) rfl
          have q3 := HKW.out.cell (i := 3) rfl
          have q4 := HKW.out.cell (i := 4) rfl
          have q5 := HKW.out.cell (i := 5) rfl
          have q6 := HKW.out.cell (i := 6) rfl
          have q7 := HKW.out.cell (i := 7) rfl
          have q8 := HKW.out.cell (i := 8) rfl
          have q9 := HKW.out.cell (i := 9) rfl
          have q10 := HKW.out.cell (i := 10) rfl
          go_wp2
          exact hJ _ _ _ (Nat.le_refl _) (fun _ => ⟨HB2.out, fun _ => Below.refl _ _, fun h => absurd h (by decide), rfl⟩) (fun h => absurd h (by decide)) (by simp [setU] <;> omega)
        · intro u w2 hb hS hG hF hU J K hJ hK
          have HB2 := Lib.hid hb
          have HS2 := Lib.hid hS
          have HG2 := Lib.hid hG
          have HF := Lib.hid hF
          clear hb hF hS hG hU
          go_wp2
          exact hJ _ _ _ (Nat.le_refl _) (fun _ => ⟨HB2.out, fun _ => Below.refl _ _, fun h => absurd h (by decide), rfl⟩) (fun h => absurd h (by decide)) (by simp [setU] <;> omega)
        · intro u w2 hb hS hG hF hU J K hJ hK
          have HB2 := Lib.hid hb
          have HS2 := Lib.hid hS
          have HG2 := Lib.hid hG
          have HF := Lib.hid hF
          clear hb hF hS hG hU
          have f2 : u 2 = .pointer (some ⟨g, 0, none⟩) := HF.out 2 (by decide)
          go_wp2
          exact hJ _ _ _ (Nat.le_refl _) (fun _ => ⟨HB2.out, fun _ => Below.refl _ _, fun h => absurd h (by decide), rfl⟩) (fun h => absurd h (by decide)) (by simp [setU, f2] <;> omega)
        · intro u w2 hb hS hG hF hU J K hJ hK
          have HB2 := Lib.hid hb
          have HS2 := Lib.hid hS
          have HG2 := Lib.hid hG
          have HF := Lib.hid hF
          clear hb hF hS hG hU
          have f3 : u 3 = .pointer (some ⟨g, 0, none⟩) := HF.out 3 (by decide)
          go_wp2
          exact hJ _ _ _ (Nat.le_refl _) (fun _ => ⟨HB2.out, fun _ => Below.refl _ _, fun h => absurd h (by decide), rfl⟩) (fun h => absurd h (by decide)) (by simp [setU, f3] <;> omega)
        · intro u w2 hb hS hG hF hU J K hJ hK
          have HB2 := Lib.hid hb
          have HS2 := Lib.hid hS
          have HG2 := Lib.hid hG
          have HF := Lib.hid hF
          clear hb hF hS hG hU
          have f4 : u 4 = .pointer (some ⟨g, 2, none⟩) := HF.out 4 (by decide)
          have cc : w2.cell? ⟨g, 2, none⟩ = some (.int .u32 (iss : Int)) := by rw [← HIE.out]; exact (HBK2.out.ext HB2.out).cell rfl
          go_wp2
          exact hJ _ _ _ (Nat.le_refl _) (fun _ => ⟨HB2.out, fun _ => Below.refl _ _, fun h => absurd h (by decide), rfl⟩) (fun h => absurd h (by decide)) (by simp [setU, f4] <;> omega)
        · intro u w2 hb hS hG hF hU J K hJ hK
          have HB2 := Lib.hid hb
          have HS2 := Lib.hid hS
          have HG2 := Lib.hid hG
          have HF := Lib.hid hF
          clear hb hF hS hG hU
          have f1 : u 1 = .agg #[.int .i64 p.src, .int .i64 p.dst, .int .i64 p.sp, .int .i64 p.dp, .int .u32 (p.seq : Int), .int .u32 (p.ack : Int), .int .i64 p.fl, .int .i64 p.wn, .int .i64 p.pr, .int .i64 p.og, .slice B pn pc] := HF.out 1 (by decide)
          have f5 : u 5 = .int .u32 (iss : Int) := HF.out 5 (by decide)
          dsimp only
          rw [f1, f5]
          go_wp2_with (go_at_call 38; refine (HAC.out w2 HB2.out).mono ?_; rintro e w3 ⟨v3, rfl, hb, ha⟩)
          have HA3 := Lib.hid ha; have HB3 := Lib.hid hb; clear ha hb
          exact hJ _ _ _ (HB3.out.size) (fun _ => ⟨HB2.out.trans (HB3.out.mono HB2.out.size), fun h => absurd rfl h, fun _ => grown_of_below HB3.out _, HA3.out⟩) (fun h => absurd h (by decide)) (by simp [setU, f1, f5] <;> omega)
        · intro u w2 hb hS hG hF hU J K hJ hK
          have HB2 := Lib.hid hb
          have HS2 := Lib.hid hS
          have HG2 := Lib.hid hG
          have HF := Lib.hid hF
          clear hb hF hS hG hU
          have f0 : u 0 = .pointer (some ⟨g, 0, none⟩) := HF.out 0 (by decide)
          go_wp2
          exact hJ _ _ _ (Nat.le_refl _) (fun _ => ⟨HB2.out, fun _ => Below.refl _ _, fun h => absurd h (by decide), rfl⟩) (fun h => absurd h (by decide)) (by simp [setU, f0] <;> omega)
        · intro u w2 hb hS hG hF hU J K hJ hK
          have HB2 := Lib.hid hb
          have HS2 := Lib.hid hS
          have HG2 := Lib.hid hG
          have HF := Lib.hid hF
          clear hb hF hS hG hU
          have f7 : u 7 = .pointer (some ⟨g, 0, none⟩) := HF.out 7 (by decide)
          go_wp2
          exact hJ _ _ _ (Nat.le_refl _) (fun _ => ⟨HB2.out, fun _ => Below.refl _ _, fun h => absurd h (by decide), rfl⟩) (fun h => absurd h (by decide)) (by simp [setU, f7] <;> omega)
        · intro u w2 hb hS hG hF hU J K hJ hK
          have HB2 := Lib.hid hb
          have HS2 := Lib.hid hS
          have HG2 := Lib.hid hG
          have HF := Lib.hid hF
          clear hb hF hS hG hU
          have f8 : u 8 = .pointer (some ⟨g, 0, none⟩) := HF.out 8 (by decide)
          go_wp2
          exact hJ _ _ _ (Nat.le_refl _) (fun _ => ⟨HB2.out, fun _ => Below.refl _ _, fun h => absurd h (by decide), rfl⟩) (fun h => absurd h (by decide)) (by simp [setU, f8] <;> omega)
        · intro u w2 hb hS hG hF hU J K hJ hK
          have HB2 := Lib.hid hb
          have HS2 := Lib.hid hS
          have HG2 := Lib.hid hG
          have HF := Lib.hid hF
          clear hb hF hS hG hU
          have f9 : u 9 = .pointer (some ⟨g, 1, none⟩) := HF.out 9 (by decide)
          obtain ⟨kn, vn, f6, ha, ho, hn⟩ := HF.out 6 (by decide)
          have HA := Lib.hid ha
          have HO := Lib.hid ho
          have HN2 := Lib.hid hn
          have hk7 := HBK2.out.ext HB2.out
          have cc : w2.cell? ⟨g, 1, none⟩ = some (.pointer none) := (hk7.cell (c_ptr (i := 1) (P := P1) (V := V1) (by omega))).trans (by rw [HKN.out]; rfl)
          have ff := hk7.frozen 1
          have f6 : u 6 = .pointer (kn.map fun k => ⟨k, 0, none⟩) := f6
          clear ha ho hn hk7
          dsimp only
          rw [f6, f9]
          go_wp2
          exact hJ undef _ _ ((by simp [World.setCell])) (fun h => absurd rfl h) (fun _ => HFIN.out w2 kn vn HB2.out HA.out HO.out HN2.out) (by simp [setU, f6, f9] <;> omega)
      · intro u w2 hS hFL
        have HS2 := Lib.hid hS
        have HFL := Lib.hid hFL
        clear hS hFL
        have HFL2 := Lib.hid HFL.out
        clear HFL
        try dsimp only
        go_wp2_with fail
        refine bodyPost_ret (results_none rfl _ _ _) rfl ?_
        obtain ⟨V4, hg4, hk4⟩ := HFL2.out
        rw [← HL8.out] at hg4
        exact ⟨rfl, V4, by rw [HCM2.out]; exact ((HG2.out.trans hg4).pop).pop, by rw [HCM2.out]; exact hk4⟩
    · have hz : ¬ (side = 1 ∧ (P1.c 1).state = 0) := fun e => hacc ⟨e.1, by rw [HK1.out]; exact (HKO.out 1 (by omega)).2 (by rw [← HC1.out.1]; exact e.2)⟩
      have HCM2 : Hid (P.comes side at_ stay = { P1 with c := fset P1.c side ((P1.c side).take p) }) := Lib.hid (by rw [HCM.out]; unfold PS.takes; rw [if_neg hz])
      obtain ⟨kb, hkb⟩ : ∃ kb, V1.k side = kb := ⟨_, rfl⟩
      obtain ⟨pv, hpv⟩ : ∃ pv, ptr kb = pv := ⟨_, rfl⟩
      have cs : w2.cell? ⟨g, side, none⟩ = some pv := by rw [← hpv, ← hkb]; exact HBK2.out.cell (c_ptr hs)
      obtain ⟨s, hss⟩ : ∃ s, P.c side = s := ⟨_, rfl⟩
      have hs1 : P1.c side = s := by rw [HC1.out.1]; exact hss
      have HTK : Hid (∀ W : World, Below w2.heap.size w2 W → Calls Try.prog 17 #[pv, .agg (p.cs B pn pc).toArray] W fun e w' => e = .returned (.tuple #[]) ∧ ∃ V', Goes N (pItems g P V) w (pItems g { P1 with c := fset P1.c side (s.take p) } V') w' ∧ KOk { P1 with c := fset P1.c side (s.take p) } V') := Lib.hid fun W hW => by
        have hg3 := HG2.out.ext hW
        have hsd : (pItems g P1 V1 ++ [Item.bk gx 32 (p.cs B pn pc)] ++ [Item.sl (.slice B pn pc) p.data])[1 + side]? = some (Item.side kb s (V1.v side)) := by rw [← hkb, ← hs1]; exact get_snoc_lt (get_snoc_lt (p_side hs))
        obtain ⟨hok, hqu, hpk, hsn⟩ := HOK.out
        rw [hss] at hok hqu hpk hsn
        obtain ⟨_, k2, k3, k4, k5⟩ := SlN.out HSL2.out
        rw [← hpv]
        refine (side_take hg3.all hsd hok hqu hpk hsn p B pn pc HAT.out.len k2 HAT.out.inn (k4.ext hW) (fun h0 b o e hb => k5 (by rw [HAT.out.len]; exact h0) b o e (.inr ⟨1 + side, _, by omega, hsd, hb⟩))).mono ?_
        intro e w' hd
        obtain ⟨rfl, vp', hgo⟩ := Goes.did hsd hd
        rw [set_snoc (get_snoc_lt (p_side hs)), set_snoc (p_side hs), ← hkb, p_set_side hs] at hgo
        refine ⟨rfl, { V1 with v := fset V1.v side vp' }, ((hg3.trans hgo).pop).pop, fun i hi => ?_⟩
        have h0 := HKO.out i hi
        show V1.k i = none ↔ (fset P1.c side (s.take p) i).state = 0
        rw [HK1.out]
        by_cases e : i = side
        · subst e
          rw [fset_at, take_st hok hqu HAT.out.inn]
          rw [hss] at h0
          exact h0
        · rw [fset_no _ _ e, HC1.out.1]
          exact h0
      rw [hs1] at HCM2
      simp only [Pk.cs] at HTK
      obtain ⟨q0, q1, q2, q3, q4, q5, q6, q7, q8, q9, q10⟩ : w2.cell? ⟨gx, 0, none⟩ = some (.int .i64 p.src) ∧ w2.cell? ⟨gx, 1, none⟩ = some (.int .i64 p.dst) ∧ w2.cell? ⟨gx, 2, none⟩ = some (.int .i64 p.sp) ∧ w2.cell? ⟨gx, 3, none⟩ = some (.int .i64 p.dp) ∧ w2.cell? ⟨gx, 4, none⟩ = some (.int .u32 (p.seq : Int)) ∧ w2.cell? ⟨gx, 5, none⟩ = some (.int .u32 (p.ack : Int)) ∧ w2.cell? ⟨gx, 6, none⟩ = some (.int .i64 p.fl) ∧ w2.cell? ⟨gx, 7, none⟩ = some (.int .i64 p.wn) ∧ w2.cell? ⟨gx, 8, none⟩ = some (.int .i64 p.pr) ∧ w2.cell? ⟨gx, 9, none⟩ = some (.int .i64 p.og) ∧ w2.cell? ⟨gx, 10, none⟩ = some (.slice B pn pc) := ⟨HX2.out.cell rfl, HX2.out.cell rfl, HX2.out.cell rfl, HX2.out.cell rfl, HX2.out.cell rfl, HX2.out.cell rfl, HX2.out.cell rfl, HX2.out.cell rfl, HX2.out.cell rfl, HX2.out.cell rfl, HX2.out.cell rfl⟩
      clear hpv hss hs1 hz
      rcases two_cases hs with rfl | rfl
      · clear hacc hkb
        go_upto_region 5 with fail
        go_still_tail 7, (by kernel_rfl)
        change wpList _ _ _ _ _ w2.drew
        have HTD := Lib.hid (HTK.out w2.drew (Below.refl _ _).drew)
        generalize w2.drew = w3 at HTD ⊢
        clear q0 q1 q2 q3 q4 q5 q6 q7 q8 q9 q10 cs
        go_wp2_with fail
        refine HTD.out.mono ?_
        rintro e w4 ⟨rfl, V4, hg4, hk4⟩
        have HF := Lib.hid (show _ ∧ _ from ⟨hg4, hk4⟩)
        clear hg4 hk4 HTD
        go_wp2_with fail
        go_end0
        exact ⟨rfl, V4, by rw [HCM2.out]; exact HF.out.1, by rw [HCM2.out]; exact HF.out.2⟩
      · obtain ⟨k1, rfl⟩ : ∃ k1, kb = some k1 := by
          cases kb with
          | none => exact absurd ⟨rfl, hkb⟩ hacc
          | some k1 => exact ⟨k1, rfl⟩
        have hp2 : pv = .pointer (some ⟨k1, 0, none⟩) := by
          have := HBK2.out.cell (c_ptr (i := 1) (P := P1) (V := V1) (by omega))
          rw [hkb] at this
          rw [cs] at this
          exact Option.some.inj this
        subst hp2
        clear hacc hkb
        go_upto_region 5 with fail
        go_still_tail 7, (by kernel_rfl)
        change wpList _ _ _ _ _ w2.drew
        have HTD := Lib.hid (HTK.out w2.drew (Below.refl _ _).drew)
        generalize w2.drew = w3 at HTD ⊢
        clear q0 q1 q2 q3 q4 q5 q6 q7 q8 q9 q10 cs
        go_wp2_with fail
        refine HTD.out.mono ?_
        rintro e w4 ⟨rfl, V4, hg4, hk4⟩
        have HF := Lib.hid (show _ ∧ _ from ⟨hg4, hk4⟩)
        clear hg4 hk4 HTD
        go_wp2_with fail
        go_end0
        exact ⟨rfl, V4, by rw [HCM2.out]; exact HF.out.1, by rw [HCM2.out]; exact HF.out.2⟩
end
end Go.Proofs.Ytjhnnnklfhbebaa

