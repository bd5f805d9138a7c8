/- The walk of the law DigestPieces. -/
import Derived.Test.YtchbnablefoemaaDoorLawParts
namespace Go.Proofs.YtchbnablefoemaaDoor
open Go.RowKit
set_option linter.unusedVariables false

theorem RB.kept {w w' : World} {A : Option Addr} {l : List UInt8} {row : Option Nat} (h : RB w A l) (e : w.grownBy w' row) (ho : 0 < l.length → ∀ b o, A = some ⟨b, o, none⟩ → row ≠ some b) : RB w' A l := fun i hi => by
  obtain ⟨b, o, rfl, hc⟩ := h i hi
  have hlt := World.block_lt_of_cell? w _ hc
  exact ⟨b, o, rfl, (World.cell?_of_block (e.block b hlt (Ne.symm (ho (by omega) b o rfl)))).trans hc⟩
theorem HashIs.kept {w w' : World} {g : Nat} {R : Option Addr} {L : List UInt8} {row : Option Nat} (h : HashIs w g R L) (e : w.grownBy w' row) (hne : row ≠ some g) (ho : 0 < (restL L).length → ∀ b o, R = some ⟨b, o, none⟩ → row ≠ some b) : HashIs w' g R L := by
  obtain ⟨c, hK, hR, hc⟩ := h
  exact ⟨c, hK.same (e.block g hK.lt (Ne.symm hne)), hR.kept e ho, hc⟩
theorem HashIs.rest_lt {w : World} {g : Nat} {R : Option Addr} {L : List UInt8} (h : HashIs w g R L) (h0 : 0 < (restL L).length) {b o : Nat} (e : R = some ⟨b, o, none⟩) : b < w.heap.size := by
  obtain ⟨c, hK, hR, hc⟩ := h
  obtain ⟨b2, o2, e2, hc2⟩ := hR 0 h0
  have := World.block_lt_of_cell? w _ hc2
  rw [e2] at e
  cases e
  exact this

/-- A hash and a list, each in memory of its own, from g on. -/
structure Both (w : World) (g : Nat) (R : Option Addr) (L : List UInt8) (v : Value) (M : List UInt8) : Prop where
  h : HashIs w g R L
  o : Off g R
  l : OwnB g 5 w v M
  ne : v.ownBlock ≠ some g
  ap : 0 < (restL L).length → ∀ b o, R = some ⟨b, o, none⟩ → v.ownBlock ≠ some b
theorem Both.ext {w w' : World} {g : Nat} {R : Option Addr} {L : List UInt8} {v : Value} {M : List UInt8} (h : Both w g R L v M) (e : Below w.heap.size w w') : Both w' g R L v M := ⟨h.h.ext e, h.o, h.l.ext e, h.ne, h.ap⟩
/-- Where another row, of a later call's own, is written. -/
theorem Both.kept {w w' : World} {g : Nat} {R : Option Addr} {L : List UInt8} {v : Value} {M : List UInt8} {row : Option Nat} (h : Both w g R L v M) (e : w.grownBy w' row) (h1 : row ≠ some g) (h2 : 0 < (restL L).length → ∀ b o, R = some ⟨b, o, none⟩ → row ≠ some b)
    (h3 : v.ownBlock = none ∨ v.ownBlock ≠ row) : Both w' g R L v M := ⟨h.h.kept e h1 h2, h.o, h.l.other e h3, h.ne, h.ap⟩
/-- Behind a Write. -/
theorem Both.wrote {w w' : World} {g : Nat} {R R' : Option Addr} {L L' : List UInt8} {v : Value} {M : List UInt8} (h : Both w g R L v M) (hh : HashIs w' g R' L') (hf : From w.heap.size R') (hg : w.grownBy w' (some g)) : Both w' g R' L' v M :=
  ⟨hh, hf.off h.h.lt, h.l.other hg (.inr h.ne), h.ne, fun _ b o e k => by have := hf b o e; have := (h.l.lt b k).2; omega⟩
/-- Behind an append to the list. -/
theorem Both.grew {w w' : World} {g : Nat} {R : Option Addr} {L : List UInt8} {v v' : Value} {M M' : List UInt8} (h : Both w g R L v M) (ho : OwnB g 5 w' v' M') (hg : w.grownBy w' v.ownBlock) (hb : v'.ownBlock = v.ownBlock ∨ v'.ownBlock = some w.heap.size) : Both w' g R L v' M' := by
  refine ⟨h.h.kept hg h.ne h.ap, h.o, ho, ?_, ?_⟩
  · rcases hb with e | e
    · rw [e]; exact h.ne
    · rw [e]; intro k; have := Option.some.inj k; have := h.h.lt; omega
  · intro h0 b o e
    rcases hb with k | k
    · rw [k]; exact h.ap h0 b o e
    · rw [k]; intro q; have := Option.some.inj q; have := h.h.rest_lt h0 e; omega

set_option maxRecDepth 8000 in
set_option maxHeartbeats 4000000 in
theorem pieces_walk (w : World) (hT : Tabs w) (A : Option Addr) (c : Nat) (ls : List (List UInt8)) (h : RBB w A ls) (hc : ls.length ≤ c) (hn : ls.length ≤ 5864062014640) (hl : ∀ i, i < ls.length → (ls.getD i []).length ≤ 140737488351232) :
    Calls Tryd.prog 5 #[.slice A ls.length c] w fun e w' => e = .returned (.bool true) ∧ Below w.heap.size w w' := by
  have HT := Lib.hid hT
  have H := Lib.hid h
  have HL := Lib.hid hl
  have HTL := Lib.hid hT.lt
  clear hT h hl
  go_enter Tryd.func5, Tryd.ntmps5
  go_wp2_with fail
  go_loop [3, 4] (fun v i => ∃ k : Nat, k ≤ ls.length ∧ i = .int .i64 k ∧ v = .int .i64 (nTo ls k : Nat) ∧ nTo ls k ≤ 16385) (fun _ i => ls.length - (intOf i).toNat)
  case atStart => exact ⟨0, Nat.zero_le _, rfl, rfl, by simp [nTo]⟩
  case round =>
    obtain ⟨k, hk, rfl, rfl, hk2⟩ := hrel
    by_cases h3 : nTo ls k ≤ 8192
    · by_cases h1 : k < ls.length
      · have d1 : decide ((k : Int) < (ls.length : Int)) = true := by simpa using h1
        obtain ⟨b, o, A', c', rfl, hc', hr, hl'⟩ := H.out k h1
        have hs : Hid (nTo ls (k + 1) = nTo ls k + (1 + min (ls.getD k []).length 8192)) := rfl
        have hlen := HL.out k h1
        clear hr
        generalize ls.getD k [] = p at *
        generalize nTo ls k = q at *
        go_wp2
        have h4 : nTo ls (k + 1) ≤ 16385 := by rw [hs.out]; omega
        refine ⟨⟨k + 1, by omega, by go_num, ?_, h4⟩, by simp [intOf]; omega⟩
        rw [hs.out]
        congr 1
        split <;> omega
      · obtain rfl : k = ls.length := by omega
        have hcat := nTo_cat ls ls.length h3 ls.length (Nat.le_refl _)
        have hcl : (catTo ls ls.length).length ≤ 8192 := by omega
        have HC := Lib.hid hcl
        have EQ := Lib.hid eq32
        have NE := Lib.hid neq32
        clear hcat hcl hk
        go_wp2_with fail
        refine (new_calls w HT.out).mono ?_
        rintro e w1 ⟨rfl, hh1, hb1⟩
        obtain ⟨g, hg⟩ : ∃ g, w.heap.size = g := ⟨_, rfl⟩
        rw [hg] at hh1
        rw [hg]
        have HG := Lib.hid hg
        have HB1 : Hid (Below g w w1) := Lib.hid (by rw [← hg]; exact hb1)
        have HP1 : Hid (Both w1 g none (catTo ls 0) (.slice none 0 0) (catTo ls 0)) := Lib.hid ⟨hh1, (fun _ _ e => by cases e), OwnB.nil _ _ _, (fun e => by cases e), (fun _ _ _ e => by cases e)⟩
        clear hh1 hb1 hg
        go_wp2_with fail
        go_loopw [6, 36] (fun v i wr => ∃ (k : Nat) (R : Option Addr), k ≤ ls.length ∧ i = .int .i64 k ∧ Hid (Both wr g R (catTo ls k) v (catTo ls k)) ∧ Hid (Below g w wr)) (fun _ i _ => ls.length - (intOf i).toNat)
        case atStart => exact ⟨0, none, Nat.zero_le _, rfl, HP1, HB1⟩
        case round =>
          clear HP1 HB1
          obtain ⟨k, R, hk, rfl, HP, HB⟩ := hrel
          have hgs : g < wr.heap.size := HP.out.h.lt
          have HBw : Hid (Below w.heap.size w wr) := Lib.hid (by rw [HG.out]; exact HB.out)
          have hcat := catTo_le HC.out k hk
          have HCT := Lib.hid hcat
          obtain ⟨A6, c6, rfl, hr6, hc6, _⟩ := HP.out.l.form
          obtain ⟨n6, hn6⟩ : ∃ n6, (catTo ls k).length = n6 := ⟨_, rfl⟩
          rw [hn6] at HP hcat hc6 ⊢
          have HN6 := Lib.hid hn6
          have HR6 := Lib.hid hr6
          clear hn6 hr6
          by_cases hlt : k < ls.length
          · obtain ⟨b, o, A', c', rfl, hc', hr, hl', hoff⟩ := H.out.part HBw.out hlt
            have hp := HL.out k hlt
            have hcat1 := catTo_le HC.out (k + 1) hlt
            have HS : Hid (catTo ls k ++ ls.getD k [] = catTo ls (k + 1)) := Lib.hid rfl
            have HC1 := Lib.hid hcat1
            have hR0 := H.out k hlt
            obtain ⟨_, _, A0, c0, e0, hc0, hr0, _⟩ := hR0
            cases e0
            have hpn : A0 = A' ∧ c0 = c' := by
              have e1 := Option.some.inj (hc'.symm.trans ((HBw.out.cell (p := ⟨b, o + k, none⟩) (World.block_lt_of_cell? w _ hc0)).trans hc0))
              injection e1 with e2 _ e3
              exact ⟨e2.symm, e3.symm⟩
            obtain ⟨rfl, rfl⟩ := hpn
            have HRp := Lib.hid hr0
            generalize ls.getD k [] = p at *
            obtain ⟨m, hm⟩ : ∃ m, p.length = m := ⟨_, rfl⟩
            have HM := Lib.hid hm
            clear hr hoff hc0 hr0 hcat1 hcat
            rw [hm] at hc' hl' hp
            clear hm
            go_wp2_with fail
            have k1 := clone_calls A0 c0 p wr (HRp.out.ext HBw.out) (by rw [HM.out]; exact hp)
            rw [HM.out] at k1
            refine k1.mono ?_
            rintro e w2 ⟨v2, rfl, ho2, hb2⟩
            have HP2 := Lib.hid (HP.out.ext hb2)
            have HB2 := Lib.hid (HB.out.trans (hb2.mono (by omega)))
            have HO2 := Lib.hid ho2
            obtain ⟨A2, c2, rfl, hr2, hc2, _⟩ := ho2.form
            have hgs2 : wr.heap.size ≤ w2.heap.size := hb2.size
            have HR2 := Lib.hid hr2
            rw [HM.out] at HO2 hc2
            rw [HM.out]
            obtain ⟨S0, hS0⟩ : ∃ S0, wr.heap.size = S0 := ⟨_, rfl⟩
            have HRow : Hid (∀ q, (Value.slice A2 m c2).ownBlock = some q → S0 ≤ q ∧ q < w2.heap.size) := Lib.hid fun q hq => by
              have := HO2.out.lt q hq
              rw [hS0] at this
              exact this
            have HAll : Hid (∀ q, (Value.slice A6 n6 c6).ownBlock = some q → q < S0) := Lib.hid fun q hq => by
              have := (HP.out.l.lt q hq).2
              rw [hS0] at this
              exact this
            have HgS : Hid (g < S0) := Lib.hid (by omega)
            have HS0 := Lib.hid hS0
            clear hS0
            clear k1 ho2 hb2 hr2 HP HB HBw hc'
            have HBw2 : Hid (Below w.heap.size w w2) := Lib.hid (by rw [HG.out]; exact HB2.out)
            go_wp2_with fail
            have k2 := write_calls g R (catTo ls k) w2 HP2.out.h HP2.out.o (HT.out.ext HBw2.out) (by have := HTL.out; have := HG.out; omega) (by have := HTL.out; have := HG.out; omega) A2 c2 p HR2.out
              (fun h0 b1 o1 e1 => by
                subst e1
                obtain ⟨gg, cc, eg, hgg, _⟩ := HO2.out.block (by rw [← HM.out] at *; exact h0)
                injection eg with ea _ _
                cases ea
                omega) (by rw [HM.out]; exact hp) (by have := HCT.out; omega)
            rw [HM.out] at k2
            refine k2.mono ?_
            rintro e w3 ⟨rfl, R3, hh, hf, hg3⟩
            rw [HS.out] at hh
            have HP3 := Lib.hid (HP2.out.wrote hh hf hg3)
            have HF3 := Lib.hid hf
            have HO3 := Lib.hid (HO2.out.other hg3 (by
              by_cases hq : (Value.slice A2 m c2).ownBlock = none
              · exact .inl hq
              · right
                intro e1
                have := (HO2.out.lt g e1).1
                omega))
            have hb3 := below_grown HB2.out hg3 (by omega) (Nat.le_refl _)
            have HB3 := Lib.hid hb3
            have hs3 : w2.heap.size ≤ w3.heap.size := hg3.size
            clear k2 hh hf hg3 hb3 HP2 HB2 HBw2 HO2
            have hmp : Hid (p.length = m) := HM
            go_wp2_with fail
            go_loopw [47] (fun i w4 => ∃ (j : Nat) (p' : List UInt8), j ≤ m ∧ i = .int .i64 j ∧ Hid (p'.length = m) ∧ Hid (OwnB wr.heap.size 5 w4 (.slice A2 m c2) p') ∧ Hid (w3.grownBy w4 (Value.slice A2 m c2).ownBlock)) (fun i _ => m - (intOf i).toNat)
            case atStart => exact ⟨0, p, Nat.zero_le _, rfl, HM, HO3, Lib.hid (grown_refl _ _)⟩
            case round =>
              obtain ⟨j, p', hj, rfl, HPL, HO4, HG4⟩ := hrel
              by_cases hjm : j < m
              · obtain ⟨gg, cc, eg, hgg, hgg2, _⟩ := HO4.out.block (by rw [HPL.out]; omega)
                injection eg with ea eb ec
                subst ea
                clear eb ec
                obtain ⟨hcj, hfj⟩ := HO4.out.cell j (by rw [HPL.out]; exact hjm)
                have hx := gb_lt p' j
                obtain ⟨y, hy⟩ : ∃ y, gb p' j ^^^ 255 = y := ⟨_, rfl⟩
                have hyl : y < 256 := by rw [← hy]; exact Nat.xor_lt_two_pow (n := 8) (by omega) (by omega)
                have hxor : bits .xor .u8 (gb p' j : Int) 255 = (y : Int) := by rw [show (255 : Int) = ((255 : Nat) : Int) from rfl, xor_u8 _ _ (by omega) (by decide), hy]
                have hset := HO4.out.set j (UInt8.ofNat y)
                have hyn : ((UInt8.ofNat y).toNat : Int) = (y : Int) := by simp; omega
                rw [hyn] at hset
                have hg5 := grown_trans HG4.out (grown_setCell _ gg j (.int .u8 (y : Int)))
                have HO5 := Lib.hid hset
                have HG5 := Lib.hid hg5
                have HPL5 : Hid ((p'.set j (UInt8.ofNat y)).length = m) := Lib.hid (by rw [List.length_set]; exact HPL.out)
                generalize gb p' j = x at *
                have hj0 : (0 : Int) ≤ j := by omega
                have hjm' : (j : Int) < m := by omega
                clear hy hset hg5 HO4 HG4 hyn
                go_wp2
                exact ⟨⟨j + 1, _, by omega, by go_num, HPL5, HO5, HG5⟩, by simp [intOf]; omega⟩
              · obtain rfl : m = j := by omega
                have HP4 := Lib.hid (HP3.out.kept HG4.out (fun e1 => by have := (HRow.out _ e1).1; have := HgS.out; omega)
                  (fun _ b1 o1 e1 e2 => by have := (HRow.out _ e2).2; have := HF3.out b1 o1 e1; omega)
                  (by
                    by_cases hq : (Value.slice A6 n6 c6).ownBlock = none
                    · exact .inl hq
                    · right
                      intro e1
                      cases hv : (Value.slice A2 m c2).ownBlock with
                      | none => rw [hv] at e1; exact hq e1
                      | some q => rw [hv] at e1; have := HAll.out q e1; have := (HRow.out q hv).1; omega))
                have hb4 : Below g w wr := HB3.out.grown HG4.out (by have := HB3.out.size; have := HG.out; omega) (fun q e1 => by have := (HRow.out q e1).1; have := HgS.out; omega)
                have hs4 : g < wr.heap.size := HP4.out.h.lt
                have HB4 := Lib.hid hb4
                have HRp4 : Hid (RB wr A0 p) := Lib.hid (HRp.out.ext (by rw [HG.out]; exact hb4))
                clear hb4 HP3 HB3 HO3 HF3 HG4 HO4 hjm hj
                go_wp2_with ((with_reducible refine (?_ : wpList _ _ _ (_ :: _) _ _)); at_builtin; refine wpList_appB rfl _ _ 22 rfl g 5 Tryd.underlying22 infoB _ (catTo ls k) rfl HP4.out.l _ _ _ p rfl HM.out HRp4.out (by have := HC1.out; rw [← HS.out, List.length_append] at this; omega) (by omega) ?_)
                intro v5 w5 ho5 hg5 hb5
                rw [HS.out] at ho5
                have HP5 := Lib.hid (HP4.out.grew ho5 hg5 hb5)
                have hbb5 := ho5
                have hb5' : Below g w w5 := HB4.out.grown hg5 (by omega) (fun q e1 => (HP4.out.l.lt q e1).1)
                have HB5 := Lib.hid hb5'
                obtain ⟨A5, c5, rfl, hr5, hc5, _⟩ := ho5.form
                have hs5 : g < w5.heap.size := HP5.out.h.lt
                obtain ⟨n5, hn5⟩ : ∃ n5, (catTo ls (k + 1)).length = n5 := ⟨_, rfl⟩
                rw [hn5] at HP5 hc5 ⊢
                have HN5 := Lib.hid hn5
                have HR5 := Lib.hid hr5
                have hn5' : n5 ≤ 8192 := by rw [← hn5]; exact HC1.out
                clear hbb5 ho5 hg5 hb5 hb5' hr5 hn5 HP4 HB4 HRp4
                have HBw5 : Hid (Below w.heap.size w w5) := Lib.hid (by rw [HG.out]; exact HB5.out)
                have hD := sumL_length (catTo ls (k + 1))
                have kn : ∀ W : World, (binOp .neq 33 (.agg ((sumL (catTo ls (k + 1))).map vb).toArray) (.agg ((sumL (catTo ls (k + 1))).map vb).toArray)).run Tryd.prog W = .ok (.bool false) W := fun W => by
                  rw [NE.out W _ _ hD hD]; simp
                have HD : Hid (∀ _ : Unit, sumL (catTo [catTo ls (k + 1)] [catTo ls (k + 1)].length) = sumL (catTo ls (k + 1))) := Lib.hid fun _ => by rw [catTo_one]
                have KN := Lib.hid kn
                clear kn hD
                go_wp2_with fail
                refine (sum_calls g R3 (catTo ls (k + 1)) w5 HP5.out.h (HT.out.ext HBw5.out) (by have := HC1.out; omega)).mono ?_
                rintro e w6 ⟨rfl, hb6⟩
                have HP6 := Lib.hid (HP5.out.ext hb6)
                have HB6 := Lib.hid (ext_trans HBw5.out hb6)
                have HR6' := Lib.hid (HR5.out.ext hb6)
                clear hb6
                go_wp2_with fail
                have hone := RBB.one A5 c5 n5 (catTo ls (k + 1)) HR6'.out HN5.out.symm hc5 22
                refine (of_calls _ 1 [catTo ls (k + 1)] _ (HT.out.ext (ext_trans HB6.out (ext_alloc _ _))) hone (by simp) (one_cat_le (by rw [HN5.out]; omega))).mono ?_
                rintro e w7 ⟨rfl, hb7⟩
                rw [HD.out ()]
                have HP7 := Lib.hid ((HP6.out.ext (ext_alloc _ _)).ext hb7)
                have HB7 := Lib.hid (ext_trans (ext_trans HB6.out (ext_alloc _ _)) hb7)
                clear hb7 hone
                have kn := KN.out
                go_wp2_with fail
                refine (sum_calls g R3 (catTo ls (k + 1)) w7 HP7.out.h (HT.out.ext HB7.out) (by have := HC1.out; omega)).mono ?_
                rintro e w8 ⟨rfl, hb8⟩
                have HP8 := Lib.hid (HP7.out.ext hb8)
                have HB8 := Lib.hid (ext_trans HB7.out hb8)
                clear hb8
                go_wp2_with fail
                refine (sum_calls g R3 (catTo ls (k + 1)) w8 HP8.out.h (HT.out.ext HB8.out) (by have := HC1.out; omega)).mono ?_
                rintro e w9 ⟨rfl, hb9⟩
                have HP9 := Lib.hid (HP8.out.ext hb9)
                have hb9' := ext_trans HB8.out hb9
                rw [HG.out] at hb9'
                have HB9 := Lib.hid hb9'
                generalize sumL (catTo ls (k + 1)) = D at *
                clear hb9 hb9' HP5 HP6 HP7 HP8 HB5 HB6 HB7 HB8 HBw5
                rw [← HN5.out] at HP9
                go_wp2
                rw [← HN5.out]
                exact ⟨⟨k + 1, R3, by omega, by go_num, HP9, HB9⟩, by simp [intOf]; omega⟩
          · obtain rfl : k = ls.length := by omega
            have hD := sumL_length (catTo ls ls.length)
            have kq : ∀ W : World, (binOp .eql 33 (.agg ((sumL (catTo ls ls.length)).map vb).toArray) (.agg ((sumL (catTo ls ls.length)).map vb).toArray)).run Tryd.prog W = .ok (.bool true) W := fun W => by
              rw [EQ.out W _ _ hD hD]; simp
            have HD : Hid (∀ _ : Unit, sumL (catTo [catTo ls ls.length] [catTo ls ls.length].length) = sumL (catTo ls ls.length)) := Lib.hid fun _ => by rw [catTo_one]
            have KQ := Lib.hid kq
            clear kq hD hcat
            go_wp2_with fail
            refine (sum_calls g R (catTo ls ls.length) wr HP.out.h (HT.out.ext HBw.out) (by have := HC.out; omega)).mono ?_
            rintro e w6 ⟨rfl, hb6⟩
            have HB6 := Lib.hid (ext_trans HBw.out hb6)
            have HR6' := Lib.hid (HR6.out.ext hb6)
            clear hb6
            go_wp2_with fail
            have hone := RBB.one A6 c6 n6 (catTo ls ls.length) HR6'.out HN6.out.symm hc6 22
            refine (of_calls _ 1 [catTo ls ls.length] _ (HT.out.ext (ext_trans HB6.out (ext_alloc _ _))) hone (by simp) (one_cat_le (by have := HC.out; omega))).mono ?_
            rintro e w7 ⟨rfl, hb7⟩
            rw [HD.out ()]
            have HB7 := Lib.hid (ext_trans (ext_trans HB6.out (ext_alloc _ _)) hb7)
            have kq := KQ.out
            generalize sumL (catTo ls ls.length) = D at *
            clear hb7 hone
            go_wp2_with fail
            refine (awake_calls _ (HT.out.ext HB7.out)).mono ?_
            rintro e w8 ⟨rfl, hb8⟩
            have HB8 := Lib.hid (ext_trans HB7.out hb8)
            clear hb8
            go_wp2
            go_ret
            exact ⟨rfl, HB8.out⟩
    · by_cases h1 : k < ls.length
      · have d1 : decide ((k : Int) < (ls.length : Int)) = true := by simpa using h1
        generalize nTo ls k = q at *
        go_wp2_with fail
        refine (awake_calls _ HT.out).mono ?_
        rintro e w4 ⟨rfl, hb4⟩
        have HB4 := Lib.hid hb4
        clear hb4
        go_wp2
        go_ret
        exact ⟨rfl, HB4.out⟩
      · obtain rfl : k = ls.length := by omega
        generalize nTo ls ls.length = q at *
        go_wp2_with fail
        refine (awake_calls _ HT.out).mono ?_
        rintro e w4 ⟨rfl, hb4⟩
        have HB4 := Lib.hid hb4
        clear hb4
        go_wp2
        go_ret
        exact ⟨rfl, HB4.out⟩
end Go.Proofs.YtchbnablefoemaaDoor
