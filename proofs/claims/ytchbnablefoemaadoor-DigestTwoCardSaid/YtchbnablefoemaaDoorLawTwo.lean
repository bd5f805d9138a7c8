/- The walk of the law DigestTwo. -/
import Derived.Test.YtchbnablefoemaaDoorLawParts
namespace Go.Proofs.YtchbnablefoemaaDoor
open Go.RowKit
set_option linter.unusedVariables false

/-- A hash that only its own calls turn: what stays of it where another one is written. -/
theorem catTo_min (ls : List (List UInt8)) (k : Nat) (h : ls.length ≤ k) : catTo ls (min k ls.length) = catTo ls ls.length := by rw [Nat.min_eq_right h]

theorem off_none (g : Nat) : Off g none := fun _ _ e => by cases e
/-- Two hashes, each in memory of its own. -/
structure Pair (w : World) (gx gy : Nat) (Rx Ry : Option Addr) (X Y : List UInt8) : Prop where
  x : HashIs w gx Rx X
  y : HashIs w gy Ry Y
  xx : Off gx Rx
  yx : Off gy Rx
  xy : Off gx Ry
  yy : Off gy Ry
  lt : gx < gy
theorem Pair.left {w w' : World} {gx gy : Nat} {Rx Ry R' : Option Addr} {X Y X' : List UInt8} (h : Pair w gx gy Rx Ry X Y) (hh : HashIs w' gx R' X') (hf : From w.heap.size R') (hg : w.grownBy w' (some gx)) : Pair w' gx gy R' Ry X' Y :=
  ⟨hh, h.y.other hg (by have := h.lt; omega) h.xy, hf.off h.x.lt, hf.off h.y.lt, h.xy, h.yy, h.lt⟩
theorem Pair.right {w w' : World} {gx gy : Nat} {Rx Ry R' : Option Addr} {X Y Y' : List UInt8} (h : Pair w gx gy Rx Ry X Y) (hh : HashIs w' gy R' Y') (hf : From w.heap.size R') (hg : w.grownBy w' (some gy)) : Pair w' gx gy Rx R' X Y' :=
  ⟨h.x.other hg (by have := h.lt; omega) h.yx, hh, h.xx, h.yx, hf.off h.x.lt, hf.off h.y.lt, h.lt⟩
theorem Pair.ext {w w' : World} {gx gy : Nat} {Rx Ry : Option Addr} {X Y : List UInt8} (h : Pair w gx gy Rx Ry X Y) (e : Below w.heap.size w w') : Pair w' gx gy Rx Ry X Y :=
  ⟨h.x.ext e, h.y.ext e, h.xx, h.yx, h.xy, h.yy, h.lt⟩
/-- What was written of a list of parts in i rounds. -/
def upL (ls : List (List UInt8)) (i : Nat) : List UInt8 := catTo ls (min i ls.length)
theorem upL_zero (ls : List (List UInt8)) : upL ls 0 = [] := by simp [upL, catTo]
theorem upL_more {ls : List (List UInt8)} {i : Nat} (h : i < ls.length) : upL ls i ++ ls.getD i [] = upL ls (i + 1) := by
  unfold upL
  rw [Nat.min_eq_left (by omega), Nat.min_eq_left (by omega)]
  rfl
theorem upL_done {ls : List (List UInt8)} {i : Nat} (h : ls.length ≤ i) : upL ls i = catTo ls ls.length := by unfold upL; rw [Nat.min_eq_right h]
theorem upL_le {ls : List (List UInt8)} {M : Nat} (h : (catTo ls ls.length).length ≤ M) (i : Nat) : (upL ls i).length ≤ M := catTo_le h _ (Nat.min_le_right _ _)

/-- Of two lists, the one of number m; and what is counted of those ahead. -/
def selL (xs bs : List (List UInt8)) (m : Nat) : List (List UInt8) := if m = 0 then xs else bs
def totN (xs bs : List (List UInt8)) (m : Nat) : Nat := if m = 0 then 0 else if m = 1 then nTo xs xs.length else nTo xs xs.length + nTo bs bs.length
theorem totN_succ (xs bs : List (List UInt8)) (m : Nat) (h : m < 2) : totN xs bs (m + 1) = totN xs bs m + nTo (selL xs bs m) (selL xs bs m).length := by
  match m, h with
  | 0, _ => simp [totN, selL]
  | 1, _ => simp [totN, selL]

set_option maxRecDepth 8000 in
set_option maxHeartbeats 4000000 in
theorem two_walk (w : World) (hT : Tabs w) (A : Option Addr) (c : Nat) (xs : List (List UInt8)) (h : RBB w A xs) (hc : xs.length ≤ c) (hn : xs.length ≤ 5864062014640) (hl : ∀ i, i < xs.length → (xs.getD i []).length ≤ 140737488351232)
    (B : Option Addr) (d : Nat) (bs : List (List UInt8)) (hB : RBB w B bs) (hd : bs.length ≤ d) (hnB : bs.length ≤ 5864062014640) (hlB : ∀ i, i < bs.length → (bs.getD i []).length ≤ 140737488351232) :
    Calls Tryd.prog 4 #[.slice A xs.length c, .slice B bs.length d] w fun e w' => e = .returned (.bool true) ∧ Below w.heap.size w w' := by
  have HT := Lib.hid hT
  have HA := Lib.hid h
  have HB := Lib.hid hB
  have HLA := Lib.hid hl
  have HLB := Lib.hid hlB
  have HTL := Lib.hid hT.lt
  clear hT h hl hB hlB
  go_enter Tryd.func4, Tryd.ntmps4
  go_wp2_with fail
  refine name_world (fun w2 => BK w2 w.heap.size 36 [.slice A xs.length c, .slice B bs.length d] ∧ Below w.heap.size w w2)
    ⟨heap_new w _ rfl, ext_alloc w _⟩ ?_
  rintro w2 ⟨hz2, hb2⟩
  have HZ2 := Lib.hid hz2
  have HB2 := Lib.hid hb2
  clear hz2 hb2
  go_loop [5, 16] (fun v i => ∃ m n : Nat, m ≤ 2 ∧ i = .int .i64 m ∧ v = .int .i64 n ∧ n ≤ 16385 ∧ (n ≤ 8192 → n = totN xs bs m)) (fun _ i => 2 - (intOf i).toNat)
  case atStart => exact ⟨0, 0, Nat.zero_le _, rfl, rfl, by omega, fun _ => rfl⟩
  case round =>
    obtain ⟨m, n0, hm, rfl, rfl, hn0, htot⟩ := hrel
    have HTOT := Lib.hid htot
    clear htot
    by_cases h2 : m < 2
    · obtain ⟨A1, c1, ls, hcell, hr1, hn1, hl1, hsel⟩ : ∃ A1 c1 ls, w2.cell? ⟨w.heap.size, m, none⟩ = some (.slice A1 (ls : List (List UInt8)).length c1) ∧ RBB w2 A1 ls ∧ ls.length ≤ 5864062014640 ∧ (∀ i, i < ls.length → (ls.getD i []).length ≤ 140737488351232) ∧ ls = selL xs bs m := by
        match m, h2 with
        | 0, _ => exact ⟨A, c, xs, HZ2.out.cell rfl, HA.out.ext HB2.out, hn, HLA.out, rfl⟩
        | 1, _ => exact ⟨B, d, bs, HZ2.out.cell rfl, HB.out.ext HB2.out, hnB, HLB.out, rfl⟩
      have HS : Hid (totN xs bs (m + 1) = totN xs bs m + nTo ls ls.length) := Lib.hid (by rw [hsel]; exact totN_succ xs bs m h2)
      have HR1 := Lib.hid hr1
      have HL1 := Lib.hid hl1
      clear hr1 hl1 hsel
      have hm0 : (0 : Int) ≤ m := by omega
      have hm2 : (m : Int) < 2 := by omega
      go_wp2_with fail
      go_loop [5, 8] (fun v i => ∃ k : Nat, k ≤ ls.length ∧ i = .int .i64 k ∧ v = .int .i64 ((n0 + nTo ls k : Nat) : Int) ∧ n0 + nTo ls k ≤ 16385) (fun _ i => ls.length - (intOf i).toNat)
      case atStart => exact ⟨0, Nat.zero_le _, rfl, rfl, by simp [nTo]; omega⟩
      case round =>
        obtain ⟨k, hk, rfl, rfl, hk2⟩ := hrel
        by_cases h3 : n0 + nTo ls k ≤ 8192
        · by_cases h1 : k < ls.length
          · have d1 : decide ((k : Int) < (ls.length : Int)) = true := by simpa using h1
            obtain ⟨b, o, A', c', rfl, hc', hr, hl'⟩ := HR1.out k h1
            have hs : Hid (nTo ls (k + 1) = nTo ls k + (1 + min (ls.getD k []).length 8192)) := rfl
            have hlen := HL1.out k h1
            clear hr
            generalize ls.getD k [] = p at *
            generalize nTo ls k = q at *
            have e0 : ((n0 + q : Nat) : Int) = (n0 : Int) + q := by omega
            rw [e0]
            clear e0
            go_wp2
            have h4 : n0 + nTo ls (k + 1) ≤ 16385 := by rw [hs.out]; omega
            refine ⟨⟨k + 1, by omega, by go_num, ?_, h4⟩, by simp [intOf]; omega⟩
            rw [hs.out]
            congr 1
            split <;> omega
          · obtain rfl : k = ls.length := by omega
            obtain ⟨n1, hn1'⟩ : ∃ n1, n0 + nTo ls ls.length = n1 := ⟨_, rfl⟩
            rw [hn1'] at h3 hk2 ⊢
            have HE := Lib.hid hn1'
            clear hn1'
            go_wp2
            exact ⟨⟨m + 1, n1, by omega, by go_num, rfl, by omega, fun _ => by rw [HS.out, ← HTOT.out (by have := HE.out; omega), HE.out]⟩, by simp [intOf]; omega⟩
        · obtain ⟨n1, hn1'⟩ : ∃ n1, n0 + nTo ls k = n1 := ⟨_, rfl⟩
          rw [hn1'] at h3 hk2 ⊢
          have HE := Lib.hid hn1'
          clear hn1'
          by_cases h1 : k < ls.length
          · have d1 : decide ((k : Int) < (ls.length : Int)) = true := by simpa using h1
            go_wp2
            exact ⟨⟨m + 1, n1, by omega, by go_num, rfl, by omega, fun h => absurd h h3⟩, by simp [intOf]; omega⟩
          · obtain rfl : k = ls.length := by omega
            go_wp2
            exact ⟨⟨m + 1, n1, by omega, by go_num, rfl, by omega, fun h => absurd h h3⟩, by simp [intOf]; omega⟩
    · obtain rfl : m = 2 := by omega
      by_cases h3 : n0 ≤ 8192
      · have ht := HTOT.out h3
        have ht2 : nTo xs xs.length + nTo bs bs.length ≤ 8192 := by simp [totN] at ht; omega
        have hca := nTo_cat xs xs.length (by omega) xs.length (Nat.le_refl _)
        have hcb := nTo_cat bs bs.length (by omega) bs.length (Nat.le_refl _)
        have hla : (catTo xs xs.length).length ≤ 8192 := by omega
        have hlb : (catTo bs bs.length).length ≤ 8192 := by omega
        have HCA := Lib.hid hla
        have HCB := Lib.hid hlb
        clear ht ht2 hca hcb hla hlb
        rcases Nat.lt_trichotomy xs.length bs.length with hmx | hmx | hmx
        · go_wp2_with fail
          refine (new_calls w2 (HT.out.ext HB2.out)).mono ?_
          rintro e w3 ⟨rfl, hh3, hb3⟩
          obtain ⟨gx, hgx⟩ : ∃ g, w2.heap.size = g := ⟨_, rfl⟩
          rw [hgx] at hh3
          rw [hgx]
          have HX3 := Lib.hid hh3
          have HB3 := Lib.hid hb3
          have HGX := Lib.hid hgx
          clear hh3 hb3 hgx
          go_wp2_with fail
          refine (new_calls w3 (HT.out.ext (ext_trans HB2.out HB3.out))).mono ?_
          rintro e w4 ⟨rfl, hh4, hb4⟩
          obtain ⟨gy, hgy⟩ : ∃ g, w3.heap.size = g := ⟨_, rfl⟩
          rw [hgy] at hh4
          rw [hgy]
          have hpair : Pair w4 gx gy none none (upL xs 0) (upL bs 0) := by
            rw [upL_zero, upL_zero]
            exact ⟨HX3.out.ext hb4, hh4, off_none _, off_none _, off_none _, off_none _, by have := HX3.out.lt; omega⟩
          have HP4 := Lib.hid hpair
          have hb5 : Below gx w2 w4 := by rw [← HGX.out]; exact ext_trans HB3.out hb4
          have HB4 := Lib.hid hb5
          have hgl : w.heap.size < gx := by rw [← HGX.out]; exact HZ2.out.lt
          have HGL := Lib.hid hgl
          clear hh4 hb4 hgy hpair hb5 HX3 HB3 hgl
          go_wp2_with fail
          go_loopw [50] (fun i wr => ∃ (i0 : Nat) (Rx Ry : Option Addr), (i0 ≤ xs.length ∨ i0 ≤ bs.length) ∧ i = .int .i64 i0 ∧ Hid (Pair wr gx gy Rx Ry (upL xs i0) (upL bs i0)) ∧ Hid (Below gx w2 wr)) (fun i _ => xs.length + bs.length - (intOf i).toNat)
          case atStart => exact ⟨0, none, none, .inl (Nat.zero_le _), rfl, HP4, HB4⟩
          case round =>
            clear HP4 HB4
            obtain ⟨i, Rx, Ry, hi, rfl, HP, HB4⟩ := hrel
            have HBw : Hid (Below w.heap.size w wr) := Lib.hid (HB2.out.trans (HB4.out.mono (by have := HGL.out; omega)))
            by_cases hx : i < xs.length
            · obtain ⟨b1, o1, A1, c1, rfl, hc1, hr1, hl1, hof1⟩ := HA.out.part HBw.out hx
              have hp1 := HLA.out i hx
              have ho1 := hof1 gx (by have := HGL.out; omega)
              have HUX := Lib.hid (upL_more hx)
              have hlx := upL_le HCA.out i
              have HR1 := Lib.hid hr1
              have HO1 := Lib.hid ho1
              have HLX := Lib.hid hlx
              generalize xs.getD i [] = p1 at *
              clear hr1 hof1 ho1 hlx
              by_cases hy : i < bs.length
              · obtain ⟨b2, o2, A2, c2, rfl, hc2, hr2, hl2, hof2⟩ := HB.out.part HBw.out hy
                have hc2' := Lib.hid hc2
                clear hc2
                have hp2 := HLB.out i hy
                have ho2 := hof2 gy (by have := HGL.out; have := HP.out.lt; omega)
                have ho2x := hof2 gx (by have := HGL.out; omega)
                have HUY := Lib.hid (upL_more hy)
                have hly := upL_le HCB.out i
                have HR2 := Lib.hid hr2
                have HO2 := Lib.hid ho2
                have HO2X := Lib.hid ho2x
                have HLY := Lib.hid hly
                have hb2lt : Hid (b2 < w.heap.size) := by
                  obtain ⟨_, _, _, _, e3, hc3, _⟩ := HB.out i hy
                  cases e3
                  exact Lib.hid (World.block_lt_of_cell? w _ hc3)
                generalize bs.getD i [] = p2 at *
                clear hr2 hof2 ho2 hly ho2x
                go_wp2_with fail
                refine (write_calls gx Rx (upL xs i) wr HP.out.x HP.out.xx (HT.out.ext HBw.out) (by have := HTL.out; have := HGL.out; omega) (by have := HTL.out; have := HGL.out; omega) A1 c1 p1 HR1.out HO1.out hp1 (by have := HLX.out; omega)).mono ?_
                rintro e w5 ⟨rfl, R5, hh, hf, hg5⟩
                rw [HUX.out] at hh
                have HP5 := Lib.hid (HP.out.left hh hf hg5)
                have hb5 := below_grown HB4.out hg5 (by have := HP.out.x.lt; omega) (Nat.le_refl _)
                have HB5 := Lib.hid hb5
                have HBw5 : Hid (Below w.heap.size w w5) := Lib.hid (HB2.out.trans (hb5.mono (by have := HGL.out; omega)))
                have hc2 := (hg5.block b2 (by have := hb2lt.out; have := HBw.out.size; omega) (fun e => by have := hb2lt.out; have := HGL.out; have := Option.some.inj e; omega))
                have hc2 := (World.cell?_of_block (a := ⟨b2, o2 + i, none⟩) hc2).trans hc2'.out
                have HR2' := Lib.hid (HR2.out.grown hg5 HO2X.out)
                clear hh hf hg5 hb5 HP HB4 HBw HR1 HR2 hc1
                go_wp2_with fail
                refine (write_calls gy Ry (upL bs i) w5 HP5.out.y HP5.out.yy (HT.out.ext HBw5.out) (by have := HTL.out; have := HGL.out; have := HP5.out.lt; omega) (by have := HTL.out; have := HGL.out; have := HP5.out.lt; omega) A2 c2 p2 HR2'.out HO2.out hp2 (by have := HLY.out; omega)).mono ?_
                rintro e w6 ⟨rfl, R6, hh, hf, hg6⟩
                rw [HUY.out] at hh
                have HP6 := Lib.hid (HP5.out.right hh hf hg6)
                have hb6 := below_grown HB5.out hg6 (by have := HP5.out.x.lt; omega) (by have := HP5.out.lt; omega)
                have HB6 := Lib.hid hb6
                clear hh hf hg6 hb6 HP5 HB5 HBw5 HR2' hc2
                go_wp2
                exact ⟨⟨i + 1, R5, R6, .inl (by omega), by go_num, HP6, HB6⟩, by simp [intOf]; omega⟩
              · exfalso; omega
            · by_cases hy : i < bs.length
              · obtain ⟨b2, o2, A2, c2, rfl, hc2, hr2, hl2, hof2⟩ := HB.out.part HBw.out hy
                have hp2 := HLB.out i hy
                have ho2 := hof2 gy (by have := HGL.out; have := HP.out.lt; omega)
                have HUY := Lib.hid (upL_more hy)
                have HUX : Hid (upL xs (i + 1) = upL xs i) := Lib.hid (by rw [upL_done (by omega), upL_done (by omega)])
                have hly := upL_le HCB.out i
                have HR2 := Lib.hid hr2
                have HO2 := Lib.hid ho2
                have HLY := Lib.hid hly
                generalize bs.getD i [] = p2 at *
                clear hr2 hof2 ho2 hly
                go_wp2_with fail
                refine (write_calls gy Ry (upL bs i) wr HP.out.y HP.out.yy (HT.out.ext HBw.out) (by have := HTL.out; have := HGL.out; have := HP.out.lt; omega) (by have := HTL.out; have := HGL.out; have := HP.out.lt; omega) A2 c2 p2 HR2.out HO2.out hp2 (by have := HLY.out; omega)).mono ?_
                rintro e w6 ⟨rfl, R6, hh, hf, hg6⟩
                rw [HUY.out] at hh
                have hp6 := HP.out.right hh hf hg6
                rw [← HUX.out] at hp6
                have HP6 := Lib.hid hp6
                have hb6 := below_grown HB4.out hg6 (by have := HP.out.x.lt; omega) (by have := HP.out.lt; omega)
                have HB6 := Lib.hid hb6
                clear hh hf hg6 hb6 HP HB4 HBw HR2 hc2 hp6
                go_wp2
                exact ⟨⟨i + 1, Rx, R6, .inr (by omega), by go_num, HP6, HB6⟩, by simp [intOf]; omega⟩
              · have hUX := upL_done (ls := xs) (i := i) (by omega)
                have hUY := upL_done (ls := bs) (i := i) (by omega)
                rw [hUX, hUY] at HP
                have hle : ¬ i < xs.length ∧ ¬ i < bs.length := ⟨hx, hy⟩
                have EQ := Lib.hid eq32
                have hDx := sumL_length (catTo xs xs.length)
                have hDy := sumL_length (catTo bs bs.length)
                clear hUX hUY
                go_wp2_with fail
                refine (sum_calls gx Rx (catTo xs xs.length) wr HP.out.x (HT.out.ext HBw.out) (by have := HCA.out; omega)).mono ?_
                rintro e w6 ⟨rfl, hb6⟩
                have HP6 := Lib.hid (HP.out.ext hb6)
                have HB6 := Lib.hid (ext_trans HBw.out hb6)
                clear hb6 HP HB4 HBw
                go_wp2_with fail
                refine (of_calls A c xs w6 (HT.out.ext HB6.out) (HA.out.ext HB6.out) (by omega) (by have := HCA.out; omega)).mono ?_
                rintro e w7 ⟨rfl, hb7⟩
                have HP7 := Lib.hid (HP6.out.ext hb7)
                have HB7 := Lib.hid (ext_trans HB6.out hb7)
                have kqx : ∀ W : World, (binOp .eql 33 (.agg ((sumL (catTo xs xs.length)).map vb).toArray) (.agg ((sumL (catTo xs xs.length)).map vb).toArray)).run Tryd.prog W = .ok (.bool true) W := fun W => by
                  rw [EQ.out W _ _ hDx hDx]; simp
                have kqy : ∀ W : World, (binOp .eql 33 (.agg ((sumL (catTo bs bs.length)).map vb).toArray) (.agg ((sumL (catTo bs bs.length)).map vb).toArray)).run Tryd.prog W = .ok (.bool true) W := fun W => by
                  rw [EQ.out W _ _ hDy hDy]; simp
                clear hb7 HP6 HB6 hDx hDy
                go_wp2_with fail
                refine (sum_calls gy Ry (catTo bs bs.length) w7 HP7.out.y (HT.out.ext HB7.out) (by have := HCB.out; omega)).mono ?_
                rintro e w8 ⟨rfl, hb8⟩
                have HB8 := Lib.hid (ext_trans HB7.out hb8)
                clear hb8 HP7 HB7
                go_wp2_with fail
                refine (of_calls B d bs w8 (HT.out.ext HB8.out) (HB.out.ext HB8.out) (by omega) (by have := HCB.out; omega)).mono ?_
                rintro e w9 ⟨rfl, hb9⟩
                have HB9 := Lib.hid (ext_trans HB8.out hb9)
                clear hb9 HB8
                go_wp2_with fail
                refine (awake_calls _ (HT.out.ext HB9.out)).mono ?_
                rintro e wz ⟨rfl, hbz⟩
                have HBz := Lib.hid (ext_trans HB9.out hbz)
                clear hbz
                go_wp2
                go_ret
                exact ⟨rfl, HBz.out⟩
        · have hm1 : xs.length ≤ bs.length := by omega
          have hm3 : bs.length ≤ xs.length := by omega
          clear hmx
          go_wp2_with fail
          refine (new_calls w2 (HT.out.ext HB2.out)).mono ?_
          rintro e w3 ⟨rfl, hh3, hb3⟩
          obtain ⟨gx, hgx⟩ : ∃ g, w2.heap.size = g := ⟨_, rfl⟩
          rw [hgx] at hh3
          rw [hgx]
          have HX3 := Lib.hid hh3
          have HB3 := Lib.hid hb3
          have HGX := Lib.hid hgx
          clear hh3 hb3 hgx
          go_wp2_with fail
          refine (new_calls w3 (HT.out.ext (ext_trans HB2.out HB3.out))).mono ?_
          rintro e w4 ⟨rfl, hh4, hb4⟩
          obtain ⟨gy, hgy⟩ : ∃ g, w3.heap.size = g := ⟨_, rfl⟩
          rw [hgy] at hh4
          rw [hgy]
          have hpair : Pair w4 gx gy none none (upL xs 0) (upL bs 0) := by
            rw [upL_zero, upL_zero]
            exact ⟨HX3.out.ext hb4, hh4, off_none _, off_none _, off_none _, off_none _, by have := HX3.out.lt; omega⟩
          have HP4 := Lib.hid hpair
          have hb5 : Below gx w2 w4 := by rw [← HGX.out]; exact ext_trans HB3.out hb4
          have HB4 := Lib.hid hb5
          have hgl : w.heap.size < gx := by rw [← HGX.out]; exact HZ2.out.lt
          have HGL := Lib.hid hgl
          clear hh4 hb4 hgy hpair hb5 HX3 HB3 hgl
          go_wp2_with fail
          go_loopw [50] (fun i wr => ∃ (i0 : Nat) (Rx Ry : Option Addr), (i0 ≤ xs.length ∨ i0 ≤ bs.length) ∧ i = .int .i64 i0 ∧ Hid (Pair wr gx gy Rx Ry (upL xs i0) (upL bs i0)) ∧ Hid (Below gx w2 wr)) (fun i _ => xs.length + bs.length - (intOf i).toNat)
          case atStart => exact ⟨0, none, none, .inl (Nat.zero_le _), rfl, HP4, HB4⟩
          case round =>
            clear HP4 HB4
            obtain ⟨i, Rx, Ry, hi, rfl, HP, HB4⟩ := hrel
            have HBw : Hid (Below w.heap.size w wr) := Lib.hid (HB2.out.trans (HB4.out.mono (by have := HGL.out; omega)))
            by_cases hx : i < xs.length
            · obtain ⟨b1, o1, A1, c1, rfl, hc1, hr1, hl1, hof1⟩ := HA.out.part HBw.out hx
              have hp1 := HLA.out i hx
              have ho1 := hof1 gx (by have := HGL.out; omega)
              have HUX := Lib.hid (upL_more hx)
              have hlx := upL_le HCA.out i
              have HR1 := Lib.hid hr1
              have HO1 := Lib.hid ho1
              have HLX := Lib.hid hlx
              generalize xs.getD i [] = p1 at *
              clear hr1 hof1 ho1 hlx
              by_cases hy : i < bs.length
              · obtain ⟨b2, o2, A2, c2, rfl, hc2, hr2, hl2, hof2⟩ := HB.out.part HBw.out hy
                have hc2' := Lib.hid hc2
                clear hc2
                have hp2 := HLB.out i hy
                have ho2 := hof2 gy (by have := HGL.out; have := HP.out.lt; omega)
                have ho2x := hof2 gx (by have := HGL.out; omega)
                have HUY := Lib.hid (upL_more hy)
                have hly := upL_le HCB.out i
                have HR2 := Lib.hid hr2
                have HO2 := Lib.hid ho2
                have HO2X := Lib.hid ho2x
                have HLY := Lib.hid hly
                have hb2lt : Hid (b2 < w.heap.size) := by
                  obtain ⟨_, _, _, _, e3, hc3, _⟩ := HB.out i hy
                  cases e3
                  exact Lib.hid (World.block_lt_of_cell? w _ hc3)
                generalize bs.getD i [] = p2 at *
                clear hr2 hof2 ho2 hly ho2x
                go_wp2_with fail
                refine (write_calls gx Rx (upL xs i) wr HP.out.x HP.out.xx (HT.out.ext HBw.out) (by have := HTL.out; have := HGL.out; omega) (by have := HTL.out; have := HGL.out; omega) A1 c1 p1 HR1.out HO1.out hp1 (by have := HLX.out; omega)).mono ?_
                rintro e w5 ⟨rfl, R5, hh, hf, hg5⟩
                rw [HUX.out] at hh
                have HP5 := Lib.hid (HP.out.left hh hf hg5)
                have hb5 := below_grown HB4.out hg5 (by have := HP.out.x.lt; omega) (Nat.le_refl _)
                have HB5 := Lib.hid hb5
                have HBw5 : Hid (Below w.heap.size w w5) := Lib.hid (HB2.out.trans (hb5.mono (by have := HGL.out; omega)))
                have hc2 := (hg5.block b2 (by have := hb2lt.out; have := HBw.out.size; omega) (fun e => by have := hb2lt.out; have := HGL.out; have := Option.some.inj e; omega))
                have hc2 := (World.cell?_of_block (a := ⟨b2, o2 + i, none⟩) hc2).trans hc2'.out
                have HR2' := Lib.hid (HR2.out.grown hg5 HO2X.out)
                clear hh hf hg5 hb5 HP HB4 HBw HR1 HR2 hc1
                go_wp2_with fail
                refine (write_calls gy Ry (upL bs i) w5 HP5.out.y HP5.out.yy (HT.out.ext HBw5.out) (by have := HTL.out; have := HGL.out; have := HP5.out.lt; omega) (by have := HTL.out; have := HGL.out; have := HP5.out.lt; omega) A2 c2 p2 HR2'.out HO2.out hp2 (by have := HLY.out; omega)).mono ?_
                rintro e w6 ⟨rfl, R6, hh, hf, hg6⟩
                rw [HUY.out] at hh
                have HP6 := Lib.hid (HP5.out.right hh hf hg6)
                have hb6 := below_grown HB5.out hg6 (by have := HP5.out.x.lt; omega) (by have := HP5.out.lt; omega)
                have HB6 := Lib.hid hb6
                clear hh hf hg6 hb6 HP5 HB5 HBw5 HR2' hc2
                go_wp2
                exact ⟨⟨i + 1, R5, R6, .inl (by omega), by go_num, HP6, HB6⟩, by simp [intOf]; omega⟩
              · exfalso; omega
            · by_cases hy : i < bs.length
              · exfalso; omega
              · have hUX := upL_done (ls := xs) (i := i) (by omega)
                have hUY := upL_done (ls := bs) (i := i) (by omega)
                rw [hUX, hUY] at HP
                have hle : ¬ i < xs.length ∧ ¬ i < bs.length := ⟨hx, hy⟩
                have EQ := Lib.hid eq32
                have hDx := sumL_length (catTo xs xs.length)
                have hDy := sumL_length (catTo bs bs.length)
                clear hUX hUY
                go_wp2_with fail
                refine (sum_calls gx Rx (catTo xs xs.length) wr HP.out.x (HT.out.ext HBw.out) (by have := HCA.out; omega)).mono ?_
                rintro e w6 ⟨rfl, hb6⟩
                have HP6 := Lib.hid (HP.out.ext hb6)
                have HB6 := Lib.hid (ext_trans HBw.out hb6)
                clear hb6 HP HB4 HBw
                go_wp2_with fail
                refine (of_calls A c xs w6 (HT.out.ext HB6.out) (HA.out.ext HB6.out) (by omega) (by have := HCA.out; omega)).mono ?_
                rintro e w7 ⟨rfl, hb7⟩
                have HP7 := Lib.hid (HP6.out.ext hb7)
                have HB7 := Lib.hid (ext_trans HB6.out hb7)
                have kqx : ∀ W : World, (binOp .eql 33 (.agg ((sumL (catTo xs xs.length)).map vb).toArray) (.agg ((sumL (catTo xs xs.length)).map vb).toArray)).run Tryd.prog W = .ok (.bool true) W := fun W => by
                  rw [EQ.out W _ _ hDx hDx]; simp
                have kqy : ∀ W : World, (binOp .eql 33 (.agg ((sumL (catTo bs bs.length)).map vb).toArray) (.agg ((sumL (catTo bs bs.length)).map vb).toArray)).run Tryd.prog W = .ok (.bool true) W := fun W => by
                  rw [EQ.out W _ _ hDy hDy]; simp
                clear hb7 HP6 HB6 hDx hDy
                go_wp2_with fail
                refine (sum_calls gy Ry (catTo bs bs.length) w7 HP7.out.y (HT.out.ext HB7.out) (by have := HCB.out; omega)).mono ?_
                rintro e w8 ⟨rfl, hb8⟩
                have HB8 := Lib.hid (ext_trans HB7.out hb8)
                clear hb8 HP7 HB7
                go_wp2_with fail
                refine (of_calls B d bs w8 (HT.out.ext HB8.out) (HB.out.ext HB8.out) (by omega) (by have := HCB.out; omega)).mono ?_
                rintro e w9 ⟨rfl, hb9⟩
                have HB9 := Lib.hid (ext_trans HB8.out hb9)
                clear hb9 HB8
                go_wp2_with fail
                refine (awake_calls _ (HT.out.ext HB9.out)).mono ?_
                rintro e wz ⟨rfl, hbz⟩
                have HBz := Lib.hid (ext_trans HB9.out hbz)
                clear hbz
                go_wp2
                go_ret
                exact ⟨rfl, HBz.out⟩
        · go_wp2_with fail
          refine (new_calls w2 (HT.out.ext HB2.out)).mono ?_
          rintro e w3 ⟨rfl, hh3, hb3⟩
          obtain ⟨gx, hgx⟩ : ∃ g, w2.heap.size = g := ⟨_, rfl⟩
          rw [hgx] at hh3
          rw [hgx]
          have HX3 := Lib.hid hh3
          have HB3 := Lib.hid hb3
          have HGX := Lib.hid hgx
          clear hh3 hb3 hgx
          go_wp2_with fail
          refine (new_calls w3 (HT.out.ext (ext_trans HB2.out HB3.out))).mono ?_
          rintro e w4 ⟨rfl, hh4, hb4⟩
          obtain ⟨gy, hgy⟩ : ∃ g, w3.heap.size = g := ⟨_, rfl⟩
          rw [hgy] at hh4
          rw [hgy]
          have hpair : Pair w4 gx gy none none (upL xs 0) (upL bs 0) := by
            rw [upL_zero, upL_zero]
            exact ⟨HX3.out.ext hb4, hh4, off_none _, off_none _, off_none _, off_none _, by have := HX3.out.lt; omega⟩
          have HP4 := Lib.hid hpair
          have hb5 : Below gx w2 w4 := by rw [← HGX.out]; exact ext_trans HB3.out hb4
          have HB4 := Lib.hid hb5
          have hgl : w.heap.size < gx := by rw [← HGX.out]; exact HZ2.out.lt
          have HGL := Lib.hid hgl
          clear hh4 hb4 hgy hpair hb5 HX3 HB3 hgl
          go_wp2_with fail
          go_loopw [50] (fun i wr => ∃ (i0 : Nat) (Rx Ry : Option Addr), (i0 ≤ xs.length ∨ i0 ≤ bs.length) ∧ i = .int .i64 i0 ∧ Hid (Pair wr gx gy Rx Ry (upL xs i0) (upL bs i0)) ∧ Hid (Below gx w2 wr)) (fun i _ => xs.length + bs.length - (intOf i).toNat)
          case atStart => exact ⟨0, none, none, .inl (Nat.zero_le _), rfl, HP4, HB4⟩
          case round =>
            clear HP4 HB4
            obtain ⟨i, Rx, Ry, hi, rfl, HP, HB4⟩ := hrel
            have HBw : Hid (Below w.heap.size w wr) := Lib.hid (HB2.out.trans (HB4.out.mono (by have := HGL.out; omega)))
            by_cases hx : i < xs.length
            · obtain ⟨b1, o1, A1, c1, rfl, hc1, hr1, hl1, hof1⟩ := HA.out.part HBw.out hx
              have hp1 := HLA.out i hx
              have ho1 := hof1 gx (by have := HGL.out; omega)
              have HUX := Lib.hid (upL_more hx)
              have hlx := upL_le HCA.out i
              have HR1 := Lib.hid hr1
              have HO1 := Lib.hid ho1
              have HLX := Lib.hid hlx
              generalize xs.getD i [] = p1 at *
              clear hr1 hof1 ho1 hlx
              by_cases hy : i < bs.length
              · obtain ⟨b2, o2, A2, c2, rfl, hc2, hr2, hl2, hof2⟩ := HB.out.part HBw.out hy
                have hc2' := Lib.hid hc2
                clear hc2
                have hp2 := HLB.out i hy
                have ho2 := hof2 gy (by have := HGL.out; have := HP.out.lt; omega)
                have ho2x := hof2 gx (by have := HGL.out; omega)
                have HUY := Lib.hid (upL_more hy)
                have hly := upL_le HCB.out i
                have HR2 := Lib.hid hr2
                have HO2 := Lib.hid ho2
                have HO2X := Lib.hid ho2x
                have HLY := Lib.hid hly
                have hb2lt : Hid (b2 < w.heap.size) := by
                  obtain ⟨_, _, _, _, e3, hc3, _⟩ := HB.out i hy
                  cases e3
                  exact Lib.hid (World.block_lt_of_cell? w _ hc3)
                generalize bs.getD i [] = p2 at *
                clear hr2 hof2 ho2 hly ho2x
                go_wp2_with fail
                refine (write_calls gx Rx (upL xs i) wr HP.out.x HP.out.xx (HT.out.ext HBw.out) (by have := HTL.out; have := HGL.out; omega) (by have := HTL.out; have := HGL.out; omega) A1 c1 p1 HR1.out HO1.out hp1 (by have := HLX.out; omega)).mono ?_
                rintro e w5 ⟨rfl, R5, hh, hf, hg5⟩
                rw [HUX.out] at hh
                have HP5 := Lib.hid (HP.out.left hh hf hg5)
                have hb5 := below_grown HB4.out hg5 (by have := HP.out.x.lt; omega) (Nat.le_refl _)
                have HB5 := Lib.hid hb5
                have HBw5 : Hid (Below w.heap.size w w5) := Lib.hid (HB2.out.trans (hb5.mono (by have := HGL.out; omega)))
                have hc2 := (hg5.block b2 (by have := hb2lt.out; have := HBw.out.size; omega) (fun e => by have := hb2lt.out; have := HGL.out; have := Option.some.inj e; omega))
                have hc2 := (World.cell?_of_block (a := ⟨b2, o2 + i, none⟩) hc2).trans hc2'.out
                have HR2' := Lib.hid (HR2.out.grown hg5 HO2X.out)
                clear hh hf hg5 hb5 HP HB4 HBw HR1 HR2 hc1
                go_wp2_with fail
                refine (write_calls gy Ry (upL bs i) w5 HP5.out.y HP5.out.yy (HT.out.ext HBw5.out) (by have := HTL.out; have := HGL.out; have := HP5.out.lt; omega) (by have := HTL.out; have := HGL.out; have := HP5.out.lt; omega) A2 c2 p2 HR2'.out HO2.out hp2 (by have := HLY.out; omega)).mono ?_
                rintro e w6 ⟨rfl, R6, hh, hf, hg6⟩
                rw [HUY.out] at hh
                have HP6 := Lib.hid (HP5.out.right hh hf hg6)
                have hb6 := below_grown HB5.out hg6 (by have := HP5.out.x.lt; omega) (by have := HP5.out.lt; omega)
                have HB6 := Lib.hid hb6
                clear hh hf hg6 hb6 HP5 HB5 HBw5 HR2' hc2
                go_wp2
                exact ⟨⟨i + 1, R5, R6, .inl (by omega), by go_num, HP6, HB6⟩, by simp [intOf]; omega⟩
              · have HUY : Hid (upL bs (i + 1) = upL bs i) := Lib.hid (by rw [upL_done (by omega), upL_done (by omega)])
                go_wp2_with fail
                refine (write_calls gx Rx (upL xs i) wr HP.out.x HP.out.xx (HT.out.ext HBw.out) (by have := HTL.out; have := HGL.out; omega) (by have := HTL.out; have := HGL.out; omega) A1 c1 p1 HR1.out HO1.out hp1 (by have := HLX.out; omega)).mono ?_
                rintro e w5 ⟨rfl, R5, hh, hf, hg5⟩
                rw [HUX.out] at hh
                have hp5 := HP.out.left hh hf hg5
                rw [← HUY.out] at hp5
                have HP5 := Lib.hid hp5
                have hb5 := below_grown HB4.out hg5 (by have := HP.out.x.lt; omega) (Nat.le_refl _)
                have HB5 := Lib.hid hb5
                clear hh hf hg5 hb5 HP HB4 HBw HR1 hc1 hp5
                go_wp2
                exact ⟨⟨i + 1, R5, Ry, .inl (by omega), by go_num, HP5, HB5⟩, by simp [intOf]; omega⟩
            · by_cases hy : i < bs.length
              · exfalso; omega
              · have hUX := upL_done (ls := xs) (i := i) (by omega)
                have hUY := upL_done (ls := bs) (i := i) (by omega)
                rw [hUX, hUY] at HP
                have hle : ¬ i < xs.length ∧ ¬ i < bs.length := ⟨hx, hy⟩
                have EQ := Lib.hid eq32
                have hDx := sumL_length (catTo xs xs.length)
                have hDy := sumL_length (catTo bs bs.length)
                clear hUX hUY
                go_wp2_with fail
                refine (sum_calls gx Rx (catTo xs xs.length) wr HP.out.x (HT.out.ext HBw.out) (by have := HCA.out; omega)).mono ?_
                rintro e w6 ⟨rfl, hb6⟩
                have HP6 := Lib.hid (HP.out.ext hb6)
                have HB6 := Lib.hid (ext_trans HBw.out hb6)
                clear hb6 HP HB4 HBw
                go_wp2_with fail
                refine (of_calls A c xs w6 (HT.out.ext HB6.out) (HA.out.ext HB6.out) (by omega) (by have := HCA.out; omega)).mono ?_
                rintro e w7 ⟨rfl, hb7⟩
                have HP7 := Lib.hid (HP6.out.ext hb7)
                have HB7 := Lib.hid (ext_trans HB6.out hb7)
                have kqx : ∀ W : World, (binOp .eql 33 (.agg ((sumL (catTo xs xs.length)).map vb).toArray) (.agg ((sumL (catTo xs xs.length)).map vb).toArray)).run Tryd.prog W = .ok (.bool true) W := fun W => by
                  rw [EQ.out W _ _ hDx hDx]; simp
                have kqy : ∀ W : World, (binOp .eql 33 (.agg ((sumL (catTo bs bs.length)).map vb).toArray) (.agg ((sumL (catTo bs bs.length)).map vb).toArray)).run Tryd.prog W = .ok (.bool true) W := fun W => by
                  rw [EQ.out W _ _ hDy hDy]; simp
                clear hb7 HP6 HB6 hDx hDy
                go_wp2_with fail
                refine (sum_calls gy Ry (catTo bs bs.length) w7 HP7.out.y (HT.out.ext HB7.out) (by have := HCB.out; omega)).mono ?_
                rintro e w8 ⟨rfl, hb8⟩
                have HB8 := Lib.hid (ext_trans HB7.out hb8)
                clear hb8 HP7 HB7
                go_wp2_with fail
                refine (of_calls B d bs w8 (HT.out.ext HB8.out) (HB.out.ext HB8.out) (by omega) (by have := HCB.out; omega)).mono ?_
                rintro e w9 ⟨rfl, hb9⟩
                have HB9 := Lib.hid (ext_trans HB8.out hb9)
                clear hb9 HB8
                go_wp2_with fail
                refine (awake_calls _ (HT.out.ext HB9.out)).mono ?_
                rintro e wz ⟨rfl, hbz⟩
                have HBz := Lib.hid (ext_trans HB9.out hbz)
                clear hbz
                go_wp2
                go_ret
                exact ⟨rfl, HBz.out⟩
      · clear hn0
        go_wp2_with fail
        refine (awake_calls _ (HT.out.ext HB2.out)).mono ?_
        rintro e w4 ⟨rfl, hb4⟩
        have HB4 := Lib.hid (ext_trans HB2.out hb4)
        clear hb4
        go_wp2
        go_ret
        exact ⟨rfl, HB4.out⟩
end Go.Proofs.YtchbnablefoemaaDoor
