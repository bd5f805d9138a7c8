/- The walk of the law ChunkAgain. -/
import Derived.Test.YtmohjgcnhibkoaaLawAlike
namespace Go.Proofs.Ytmohjgcnhibkoaa
open Go.RowKit
set_option linter.unusedVariables false

theorem own_chg {w w' : World} {D e n : Nat} {v : Value} {xs : List Value} {S : List Nat} (h : w.ownsRow D e 1 v n xs) (hg : Chg w w' S) (hv : ∀ x, v.ownBlock = some x → x ∉ S) : w'.ownsRow D e 1 v n xs := by
  refine ⟨h.1, ?_⟩
  rcases h.2 with hn | ⟨x, cap, cur, a, b, c, d⟩
  · exact .inl hn
  · refine .inr ⟨x, cap, cur, a, b, ?_, d⟩
    rw [hg.block x (Array.getElem?_eq_some_iff.1 c).1 (hv x (by rw [a]; rfl))]
    exact c
theorem CutIs.chg {B : Nat} {w w' : World} {k r g q : Nat} {v : Value} {L pend : List UInt8} {S : List Nat} (h : CutIs B w k r g q v L pend) (e : Chg w w' S) (hk : k ∉ S) (hr : r ∉ S) (hg : g ∉ S) (hv : ∀ x, v.ownBlock = some x → x ∉ S) : CutIs B w' k r g q v L pend :=
  ⟨h.c.same (e.block k h.c.lt hk), own_chg h.o e hv, h.roll.same (e.block r h.roll.lt hr), BK.same h.tab (e.block g h.tab.lt hg)⟩
theorem OutIs.chg {D : Nat} {w w' : World} {vo v : Value} {ls : List (List UInt8)} {S : List Nat} (h : OutIs D w vo v ls) (e : Chg w w' S) (hS : ∀ x ∈ S, x < D) : OutIs D w' vo v ls := by
  obtain ⟨vs, a, b, c⟩ := h
  exact ⟨vs, own_chg a e (fun x hx k => by have := (a.lt x hx).1; have := hS x k; omega), b, fun i u hu => ⟨own_chg (c i u hu).1 e (fun x hx k => by have := ((c i u hu).1.lt x hx).1; have := hS x k; omega), (c i u hu).2⟩⟩
theorem TabFull.chg {w w' : World} {g q : Nat} {S : List Nat} (h : TabFull w g q) (e : Chg w w' S) (hg : g ∉ S) : TabFull w' g q := BK.same h (e.block g h.lt hg)
theorem RB.old {w w0 : World} {A : Option Addr} {l : List UInt8} (h : RB w0 A l) (hb : Below w0.heap.size w0 w) (S : List Nat) (hS : ∀ x ∈ S, w0.heap.size ≤ x) : RB w A l ∧ (0 < l.length → ∀ b o, A = some ⟨b, o, none⟩ → b ∉ S) := by
  refine ⟨h.ext hb, fun h0 b o e k => ?_⟩
  obtain ⟨b', o', e', hc⟩ := h 0 h0
  have hlt : b' < w0.heap.size := World.block_lt_of_cell? w0 _ hc
  rw [e'] at e
  injection e with e
  injection e with e1 _ _
  have := hS b k
  omega
/-- Two cutters over one table, with nothing that waits. -/
structure Pair (B : Nat) (w : World) (k1 r1 k2 r2 g q : Nat) (L1 L2 : List UInt8) : Prop where
  a : CutIs B w k1 r1 g q (.slice none 0 0) L1 []
  b : CutIs B w k2 r2 g q (.slice none 0 0) L2 []
  kk : k1 ≠ k2
  rr : r1 ≠ r2
theorem Pair.k1r2 {B : Nat} {w : World} {k1 r1 k2 r2 g q : Nat} {L1 L2 : List UInt8} (h : Pair B w k1 r1 k2 r2 g q L1 L2) : k1 ≠ r2 := by
  obtain ⟨cs, hr⟩ := h.b.rb
  exact bk_ne h.a.c hr (by decide)
theorem Pair.k2r1 {B : Nat} {w : World} {k1 r1 k2 r2 g q : Nat} {L1 L2 : List UInt8} (h : Pair B w k1 r1 k2 r2 g q L1 L2) : k2 ≠ r1 := by
  obtain ⟨cs, hr⟩ := h.a.rb
  exact bk_ne h.b.c hr (by decide)
/-- The other one is not touched. -/
theorem Pair.aside1 {B : Nat} {w w' : World} {k1 r1 k2 r2 g q : Nat} {L1 L2 : List UInt8} (h : Pair B w k1 r1 k2 r2 g q L1 L2) (e : Chg w w' [k1, r1]) : CutIs B w' k2 r2 g q (.slice none 0 0) L2 [] :=
  h.b.chg e (by have := h.kk; have := h.k2r1; simp; omega) (by have := h.rr; have := h.k1r2; simp; omega) (by have := h.a.gk; have := h.a.gr; simp; omega) (fun x hx => by cases hx)
theorem Pair.aside2 {B : Nat} {w w' : World} {k1 r1 k2 r2 g q : Nat} {L1 L2 : List UInt8} (h : Pair B w k1 r1 k2 r2 g q L1 L2) (e : Chg w w' [k2, r2]) : CutIs B w' k1 r1 g q (.slice none 0 0) L1 [] :=
  h.a.chg e (by have := h.kk; have := h.k1r2; simp; omega) (by have := h.rr; have := h.k2r1; simp; omega) (by have := h.b.gk; have := h.b.gr; simp; omega) (fun x hx => by cases hx)
theorem chg_nil (k r : Nat) : own k r (.slice none 0 0) = [k, r] := rfl
theorem Chg.comp {w w1 w2 : World} {S : List Nat} (h : Chg w w1 S) (k : Chg w1 w2 S) : Chg w w2 S :=
  ⟨k.os.trans h.os, k.tape.trans h.tape, k.output.trans h.output, Nat.le_trans h.size k.size, fun i hi hn => (k.block i (Nat.lt_of_lt_of_le hi h.size) hn).trans (h.block i hi hn)⟩
theorem Chg.of_grown {w w' : World} {x : Nat} {S : List Nat} (h : w.grownBy w' (some x)) (hx : x ∈ S) : Chg w w' S := (Chg.refl w S).step h (fun y hy => by cases hy; exact .inl hx)
theorem Chg.grow_size {w w' : World} {S : List Nat} (h : Chg w w' S) : w.heap.size ≤ w'.heap.size := h.size
theorem concat2 {w : World} {A B : Option Addr} {c d : Nat} {l m : List UInt8} (h : RB w A l) (k : RB w B m) (hc : l.length ≤ c) (hd : m.length ≤ d) (e : TypeId) :
    RBB (w.alloc (.cells #[.slice A l.length c, .slice B m.length d] e)) (some ⟨w.heap.size, 0, none⟩) [l, m] := fun i hi => by
  have hb := BK.new w e [.slice A l.length c, .slice B m.length d]
  have hi2 : i < 2 := hi
  by_cases h0 : i = 0
  · subst h0
    exact ⟨_, _, A, c, rfl, hb.cell (i := 0) rfl, h.ext (ext_alloc w _), hc⟩
  · obtain rfl : i = 1 := by omega
    exact ⟨_, _, B, d, rfl, hb.cell (i := 1) rfl, k.ext (ext_alloc w _), hd⟩

set_option maxRecDepth 100000 in
set_option maxHeartbeats 1000000 in
theorem again_walk (w : World) (p : Nat) (hp : p ≤ 18446744073709551615) (A1 : Option Addr) (c1 : Nat) (l1 : List UInt8) (h1 : RB w A1 l1) (hc1 : l1.length ≤ c1) (hl1 : l1.length ≤ 140737488351232)
    (A2 : Option Addr) (c2 : Nat) (l2 : List UInt8) (h2 : RB w A2 l2) (hc2 : l2.length ≤ c2) (hl2 : l2.length ≤ 140737488351232)
    (A3 : Option Addr) (c3 : Nat) (l3 : List UInt8) (h3 : RB w A3 l3) (hc3 : l3.length ≤ c3) (hl3 : l3.length ≤ 140737488351232)
    (A4 : Option Addr) (c4 : Nat) (l4 : List UInt8) (h4 : RB w A4 l4) (hc4 : l4.length ≤ c4) (hl4 : l4.length ≤ 140737488351232) :
    Calls Try.prog 10 #[.int .u64 (p : Int), .slice A1 l1.length c1, .slice A2 l2.length c2, .slice A3 l3.length c3, .slice A4 l4.length c4] w fun e w' => e = .returned (.bool true) ∧ Below w.heap.size w w' := by
  have HP := Lib.hid (U64.of hp)
  have H1 := Lib.hid h1
  have H2 := Lib.hid h2
  have H3 := Lib.hid h3
  have H4 := Lib.hid h4
  have HC3c := Lib.hid hc3
  have HC4c := Lib.hid hc4
  clear hp h1 h2 h3 h4
  by_cases s1 : 8192 < l1.length
  · go_enter Try.func10, Try.ntmps10
    go_wp2_with fail
    refine (awake_calls w).mono ?_
    rintro e w2 ⟨rfl, hb⟩
    have HB := Lib.hid hb
    clear hb
    go_wp2
    go_ret
    exact ⟨rfl, HB.out⟩
  by_cases s2 : 8192 < l2.length
  · go_enter Try.func10, Try.ntmps10
    go_wp2_with fail
    refine (awake_calls w).mono ?_
    rintro e w2 ⟨rfl, hb⟩
    have HB := Lib.hid hb
    clear hb
    go_wp2
    go_ret
    exact ⟨rfl, HB.out⟩
  by_cases s3 : 8192 < l3.length
  · go_enter Try.func10, Try.ntmps10
    go_wp2_with fail
    refine (awake_calls w).mono ?_
    rintro e w2 ⟨rfl, hb⟩
    have HB := Lib.hid hb
    clear hb
    go_wp2
    go_ret
    exact ⟨rfl, HB.out⟩
  by_cases s4 : 8192 < l4.length
  · go_enter Try.func10, Try.ntmps10
    go_wp2_with fail
    refine (awake_calls w).mono ?_
    rintro e w2 ⟨rfl, hb⟩
    have HB := Lib.hid hb
    clear hb
    go_wp2
    go_ret
    exact ⟨rfl, HB.out⟩
  go_enter Try.func10, Try.ntmps10
  go_wp2_with fail
  refine (table_calls p HP.out w).mono ?_
  rintro e w1 ⟨g, rfl, ht, hg, hb⟩
  have hq := tabP_bl p
  generalize tabP p = q at *
  have HQ := Lib.hid hq
  have HT := Lib.hid ht
  have HB := Lib.hid hb
  have hsz1 := hb.size
  have hgl := HT.out.lt
  clear hq ht hb
  go_wp2_with fail
  refine (cnew_calls w.heap.size g q HQ.out w1 HT.out).mono ?_
  rintro e w2 ⟨ka, ra, rfl, hka, hra, hCa, hG2⟩
  have HCa := Lib.hid hCa
  have HB2 : Hid (Below w.heap.size w w2) := Lib.hid (below_grown HB.out hG2 HB.out.size hg)
  have hsz2 := hG2.size
  clear hCa hG2
  go_wp2_with fail
  refine (cnew_calls w.heap.size g q HQ.out w2 HCa.out.tab.is).mono ?_
  rintro e w3 ⟨kb, rb, rfl, hkb, hrb, hCb, hG3⟩
  have hka2 : ka < w2.heap.size := HCa.out.c.lt
  have hra2 : ra < w2.heap.size := HCa.out.roll.lt
  have hgka := HCa.out.gk
  have hgra := HCa.out.gr
  have hPair : Pair w.heap.size w3 ka ra kb rb g q [] [] := ⟨⟨HCa.out.c.same (hG3.block ka hka2 (fun e => by cases e; omega)), OwnB.nil _ _ _, HCa.out.roll.same (hG3.block ra hra2 (fun e => by cases e; omega)), hCb.tab⟩, hCb, by omega, by omega⟩
  have HPR := Lib.hid hPair
  have HB3 : Hid (Below w.heap.size w w3) := Lib.hid (below_grown HB2.out hG3 HB2.out.size hg)
  have hsz3 := HB3.out.size
  have wka : w.heap.size ≤ ka := by omega
  have wra : w.heap.size ≤ ra := by omega
  have wkb : w.heap.size ≤ kb := by omega
  have wrb : w.heap.size ≤ rb := by omega
  clear hCb hG3 hPair HCa HB2 HB HT hgka hgra hka hra hkb hrb hsz1 hsz2 hgl hka2 hra2
  -- the first one is written, and flushed
  obtain ⟨hr1, ho1⟩ := H1.out.old HB3.out [ka, ra] (by simp; omega)
  have HR1 := Lib.hid hr1
  have HO1 := Lib.hid ho1
  clear hr1 ho1
  go_wp2_with fail
  refine (write_calls (P := []) HQ.out HPR.out.a (by simp) hsz3 A1 c1 l1 HR1.out HO1.out (by omega)).mono ?_
  rintro e w4 ⟨vo4, v4, rfl, _, hC4, hG4, _⟩
  have hb4 := HPR.out.aside1 hG4
  have hlt4 := cutS_lt q [] l1 (by simp)
  have HC4 := Lib.hid hC4
  have HB4 := Lib.hid hb4
  have HG4 : Hid (Chg w3 w4 [ka, ra]) := Lib.hid hG4
  have hk1 := HPR.out.kk
  have hk2 := HPR.out.rr
  clear hC4 hb4 hG4 HR1 HO1 HPR
  go_wp2_with fail
  refine (flush_calls HC4.out (by omega)).mono ?_
  rintro e w5 ⟨u5, rfl, _, hC5, hG5⟩
  have hg5 : Chg w4 w5 [ka, ra] := Chg.of_grown hG5 (by simp)
  have hP5 : Pair w.heap.size w5 ka ra kb rb g q ([] ++ [] ++ l1) [] := ⟨hC5, by
    have hp4 : Pair w.heap.size w5 ka ra kb rb g q ([] ++ [] ++ l1) [] → True := fun _ => trivial
    refine HB4.out.chg hg5 ?_ ?_ ?_ (fun x hx => by cases hx)
    · have a1 : kb ≠ ra := by obtain ⟨cs, hr⟩ := HC4.out.rb; exact bk_ne HB4.out.c hr (by decide)
      simp; omega
    · have a1 : rb ≠ ka := by obtain ⟨cs, hr⟩ := HB4.out.rb; exact Ne.symm (bk_ne HC4.out.c hr (by decide))
      simp; omega
    · have := HC4.out.gk; have := HC4.out.gr; simp; omega, hk1, hk2⟩
  have HP5 := Lib.hid hP5
  have HB5 : Hid (Below w.heap.size w w5) := Lib.hid (HB3.out.trans ((HG4.out.comp hg5).below hsz3 (by simp; omega)))
  have hsz5 := HB5.out.size
  clear hC5 hG5 hg5 hP5 HC4 HB4 HG4 HB3 hlt4
  -- the second one likewise
  obtain ⟨hr2, ho2⟩ := H2.out.old HB5.out [kb, rb] (by simp; omega)
  have HR2 := Lib.hid hr2
  have HO2 := Lib.hid ho2
  clear hr2 ho2
  go_wp2_with fail
  refine (write_calls (P := []) HQ.out HP5.out.b (by simp) hsz5 A2 c2 l2 HR2.out HO2.out (by omega)).mono ?_
  rintro e w6 ⟨vo6, v6, rfl, _, hC6, hG6, _⟩
  have ha6 := HP5.out.aside2 hG6
  have hlt6 := cutS_lt q [] l2 (by simp)
  have HC6 := Lib.hid hC6
  have HA6 := Lib.hid ha6
  have HG6 : Hid (Chg w5 w6 [kb, rb]) := Lib.hid hG6
  clear hC6 ha6 hG6 HR2 HO2 HP5
  go_wp2_with fail
  refine (flush_calls HC6.out (by omega)).mono ?_
  rintro e w7 ⟨u7, rfl, _, hC7, hG7⟩
  have hg7 : Chg w6 w7 [kb, rb] := Chg.of_grown hG7 (by simp)
  have hP7 : Pair w.heap.size w7 ka ra kb rb g q ([] ++ [] ++ l1) ([] ++ [] ++ l2) := ⟨by
    refine HA6.out.chg hg7 ?_ ?_ ?_ (fun x hx => by cases hx)
    · have a1 : ka ≠ rb := by obtain ⟨cs, hr⟩ := HC6.out.rb; exact bk_ne HA6.out.c hr (by decide)
      simp; omega
    · have a1 : ra ≠ kb := by obtain ⟨cs, hr⟩ := HA6.out.rb; exact Ne.symm (bk_ne HC6.out.c hr (by decide))
      simp; omega
    · have := HC6.out.gk; have := HC6.out.gr; simp; omega, hC7, hk1, hk2⟩
  have HP7 := Lib.hid hP7
  have HB7 : Hid (Below w.heap.size w w7) := Lib.hid (HB5.out.trans ((HG6.out.comp hg7).below hsz5 (by simp; omega)))
  have hsz7 := HB7.out.size
  clear hC7 hG7 hg7 hP7 HC6 HA6 HG6 HB5 hlt6
  -- both are written
  obtain ⟨hr3, ho3⟩ := H3.out.old HB7.out [ka, ra] (by simp; omega)
  have HR3 := Lib.hid hr3
  have HO3 := Lib.hid ho3
  clear hr3 ho3
  go_wp2_with fail
  refine (write_calls (k := ka) (r := ra) (v := .slice none 0 0) (P := [] ++ [] ++ l1) (pend := []) HQ.out (by rw [List.append_nil]; exact HP7.out.a) (by simp) hsz7 A3 c3 l3 HR3.out HO3.out (by omega)).mono ?_
  rintro e w8 ⟨vo8, v8, rfl, hO8, hC8, hG8, _⟩
  have hb8 := HP7.out.aside1 hG8
  have HBb8 := Lib.hid hb8
  have hO8' := hO8
  obtain ⟨A8, c8, hv8, hc8, _⟩ := hO8.rbb
  have HB8 : Hid (Below w.heap.size w w8) := Lib.hid (HB7.out.trans (hG8.below hsz7 (by simp [own, Value.ownBlock]; omega)))
  have hsz8 := HB8.out.size
  have hcut := cutS_append q [] l3 l4
  have hcnt3 := cutS_count q [] l3
  obtain ⟨s3, hs3⟩ : ∃ s, (cutS q [] l3).1 = s := ⟨_, rfl⟩
  obtain ⟨n3, hn3⟩ : ∃ n, s3.length = n := ⟨_, rfl⟩
  rw [hs3] at hO8 hv8 hc8 hcut hcnt3
  rw [hn3] at hv8 hc8 hcnt3
  have hkb7 : kb < w7.heap.size := HP7.out.b.c.lt
  have hrb7 : rb < w7.heap.size := HP7.out.b.roll.lt
  have HO8 := Lib.hid hO8
  have HCUT := Lib.hid hcut
  have HN3 := Lib.hid hn3
  subst hv8
  clear hb8 hC8 hG8 hO8 hO8' hcut hs3 hn3 HP7 HR3 HO3 HB7
  obtain ⟨hr3, _⟩ := H3.out.old HB8.out [] (by simp)
  obtain ⟨hr4, _⟩ := H4.out.old HB8.out [] (by simp)
  have hcat := concat2 hr3 hr4 HC3c.out HC4c.out 23
  have HCAT := Lib.hid hcat
  clear hr3 hr4 hcat
  go_wp2_with fail
  refine (concat_n (some ⟨w8.heap.size, 0, none⟩) 2 2 [l3, l4] rfl _ HCAT.out (by decide) (l3 ++ l4) (by simp) (by rw [List.length_append]; omega)).mono ?_
  rintro e w9 ⟨v9, rfl, ho9, hb9⟩
  obtain ⟨A9, c9, hv9, hr9, _, _⟩ := ho9.form
  have hlen9 : (l3 ++ l4).length = l3.length + l4.length := List.length_append
  obtain ⟨l9, hl9⟩ : ∃ l, l3 ++ l4 = l := ⟨_, rfl⟩
  rw [hl9] at hr9 hv9 hlen9
  obtain ⟨n9, hn9⟩ : ∃ n, l9.length = n := ⟨_, rfl⟩
  have hb9' : Below w8.heap.size w8 w9 := (ext_alloc w8 _).trans (hb9.mono (by simp))
  have HO9 := Lib.hid (HO8.out.ext hb9')
  have hC9 := HBb8.out.ext hb9'
  have HB9 : Hid (Below w.heap.size w w9) := Lib.hid (HB8.out.trans (hb9'.mono hsz8))
  have hsz9 := HB9.out.size
  have hsz89 : w8.heap.size ≤ w9.heap.size := hb9'.size
  have hown9 : 0 < l9.length → ∀ b o, A9 = some ⟨b, o, none⟩ → b ∉ own kb rb (.slice none 0 0) := fun h0 b o e k => by
    have hblk : (Value.slice A9 l9.length c9).ownBlock = some b := by rw [e]; rfl
    rw [← hv9] at hblk
    have := (ho9.lt b hblk).1
    simp [own, Value.ownBlock] at k
    simp at this
    have := HBb8.out.c.lt
    have := HBb8.out.roll.lt
    omega
  have HOW9 := Lib.hid hown9
  have HR9 := Lib.hid hr9
  have HC9 := Lib.hid hC9
  have HL9 := Lib.hid hl9
  subst hv9
  have hl9n : l9.length ≤ 100000 := by omega
  clear hlen9 ho9 hb9 hb9' hC9 hr9 hown9 hl9 HO8 HBb8 HB8 HCAT hn9
  go_wp2_with fail
  refine (write_calls (k := kb) (r := rb) (v := .slice none 0 0) (P := [] ++ [] ++ l2) (pend := []) HQ.out (by rw [List.append_nil]; exact HC9.out) (by simp) hsz9 A9 c9 l9 HR9.out HOW9.out hl9n).mono ?_
  rintro e wa ⟨voa, va, rfl, hOa, _, hGa, _⟩
  have hbr := HC9.out.rb
  have hO3 : OutIs w7.heap.size wa (.slice A8 n3 c8) v8 s3 := HO9.out.chg (S := own kb rb (.slice none 0 0)) hGa (fun x hx => by
    simp [own, Value.ownBlock] at hx
    omega)
  have hea : (cutS q [] l9).1 = s3 ++ (cutS q (cutS q [] l3).2 l4).1 := by rw [← HL9.out, HCUT.out]
  obtain ⟨sa, hsa⟩ : ∃ s, (cutS q (cutS q [] l3).2 l4).1 = s := ⟨_, rfl⟩
  rw [hea, hsa] at hOa
  obtain ⟨Aa, ca, hva, hca, _⟩ := hOa.rbb
  have hna : (s3 ++ sa).length = n3 + sa.length := by rw [List.length_append, HN3.out]
  rw [hna] at hva hca
  obtain ⟨na, hnna⟩ : ∃ n, sa.length = n := ⟨_, rfl⟩
  rw [hnna] at hva hca hna
  subst hva
  have hcnta := cutS_count q [] l9
  rw [hea, hsa, hna] at hcnta
  have HRA := Lib.hid hO3.rbb'
  have hrt := (hOa.rbb').take n3
  rw [List.take_left' HN3.out] at hrt
  have HRB := Lib.hid hrt
  have HBa : Hid (Below w.heap.size w wa) := Lib.hid (HB9.out.trans (hGa.below hsz9 (by simp [own, Value.ownBlock]; omega)))
  clear hOa hGa hO3 hea hsa hna hnna hrt HC9 HOW9 HR9 HO9 HB9 HCUT HL9
  go_wp2_with fail
  refine (same_calls A8 Aa c8 ca n3 n3 s3 s3 HN3.out HN3.out wa HRA.out HRB.out (by omega) (by omega)).mono ?_
  rintro e wb ⟨rfl, rfl⟩
  rw [show (s3 == s3) = true from by simp]
  go_wp2_with fail
  refine (awake_calls wa).mono ?_
  rintro e wb ⟨rfl, hb⟩
  have HBb := Lib.hid (HBa.out.trans (hb.mono HBa.out.size))
  clear hb
  go_wp2
  go_ret
  exact ⟨rfl, HBb.out⟩
end Go.Proofs.Ytmohjgcnhibkoaa
