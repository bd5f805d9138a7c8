/- The walk of the law ChunkAll. -/
import Derived.Test.YtmohjgcnhibkoaaChunkG
namespace Go.Proofs.Ytmohjgcnhibkoaa
open Go.RowKit
set_option linter.unusedVariables false

theorem RB.upto {D : Nat} {w w' : World} {A : Option Addr} {l : List UInt8} (h : RB w A l) (hb : 0 < l.length → ∀ b o, A = some ⟨b, o, none⟩ → b < D) (e : Below D w w') : RB w' A l := fun i hi => by
  obtain ⟨b, o, rfl, hc⟩ := h i hi
  exact ⟨b, o, rfl, (World.cell?_of_block (e.block b (hb (by omega) b o rfl))).trans hc⟩
theorem Items.at {D : Nat} {w : World} {A : Option Addr} {n c k : Nat} {ns : List Nat} (h : Items D w (.slice A n c) ns) (hn : ns.length = n) (hk : k < n) : ∃ bo, A = some ⟨bo, 0, none⟩ ∧ ∃ A' c' l, w.cell? ⟨bo, k, none⟩ = some (.slice A' (ns.getD k 0) c') ∧ OwnB D 5 w (.slice A' (ns.getD k 0) c') l ∧ l.length = ns.getD k 0 ∧ ns.getD k 0 ≤ 9223372036854775807 := by
  obtain ⟨vs, a, b, c0⟩ := h
  have hi : k < vs.length := by omega
  obtain ⟨l, ho, hl⟩ := c0 k vs[k] (List.getElem?_eq_getElem hi)
  obtain ⟨A', c', e, _, h1, h2⟩ := ho.form
  rcases a.2 with ⟨e1, h0⟩ | ⟨g, cap, cur, e1, _⟩
  · omega
  · injection e1 with ea _ _
    subst ea
    have hcell := a.cells (g := g) rfl k vs[k] (List.getElem?_eq_getElem hi)
    rw [show (⟨g, 0, none⟩ : Addr).add k = ⟨g, 0 + k, none⟩ by unfold Addr.add; split <;> simp_all, Nat.zero_add] at hcell
    rw [hl] at e
    rw [e] at hcell ho
    refine ⟨g, rfl, A', c', l, hcell, ho, hl, ?_⟩
    simp only [maxLen] at h2
    omega
theorem all_cut (q : Nat) (l : List UInt8) : allN q l = (cutS q [] l).1 ++ (if (cutS q [] l).2 = [] then [] else [(cutS q [] l).2]) := rfl

set_option maxRecDepth 100000 in
set_option maxHeartbeats 4000000 in
theorem call_walk (w : World) (p : Nat) (hp : p ≤ 18446744073709551615) (A : Option Addr) (c : Nat) (l : List UInt8) (h : RB w A l) (hc : l.length ≤ c) (hl : l.length ≤ 140737488351232) :
    Calls Try.prog 6 #[.int .u64 (p : Int), .slice A l.length c] w fun e w' => e = .returned (.bool true) ∧ Below w.heap.size w w' := by
  have HP := Lib.hid (U64.of hp)
  have H := Lib.hid h
  clear hp h
  by_cases hs : 8192 < l.length
  · go_enter Try.func6, Try.ntmps6
    go_wp2_with fail
    refine (awake_calls w).mono ?_
    rintro e w2 ⟨rfl, hb⟩
    have HB := Lib.hid hb
    clear hb
    go_wp2
    go_ret
    exact ⟨rfl, HB.out⟩
  go_enter Try.func6, Try.ntmps6
  go_wp2_with fail
  refine (table_calls p HP.out w).mono ?_
  rintro e w1 ⟨g, rfl, ht, hg, hb⟩
  have hq := tabP_bl p
  generalize tabP p = q at *
  have HQ := Lib.hid hq
  have HT := Lib.hid ht
  have HB1 := Lib.hid hb
  have HH1 := Lib.hid (H.out.ext hb)
  have hgl := HT.out.lt
  clear hq ht hb
  go_wp2_with fail
  refine (clone_calls A c l w1 HH1.out hl).mono ?_
  rintro e w2 ⟨v, rfl, ho, hb2⟩
  obtain ⟨R, d, rfl, hr, hd, _⟩ := ho.form
  have hblk : 0 < l.length → ∀ b o, R = some ⟨b, o, none⟩ → w1.heap.size ≤ b ∧ b < w2.heap.size := fun h0 b o e => by
    have : (Value.slice R l.length d).ownBlock = some b := by rw [e]; rfl
    exact ho.lt b this
  have HBLK := Lib.hid hblk
  have HR := Lib.hid hr
  have HT2 := Lib.hid (HT.out.ext hb2)
  have HB2 := Lib.hid (ext_trans HB1.out hb2)
  have HOFF : Hid (0 < l.length → Off g R) := Lib.hid fun h0 b o e => by have := HBLK.out h0 b o e; omega
  have hsz2 := hb2.size
  have HB2sz : w.heap.size ≤ w2.heap.size := HB2.out.size
  clear ho hr hb2 hblk HT HB1
  go_wp2_with fail
  refine (all_calls g q HQ.out w2 HT2.out R d l HR.out HOFF.out (by omega)).mono ?_
  rintro e w3 ⟨vo, rfl, hO, ht3, hg3⟩
  have HB3 : Hid (Below w.heap.size w w3) := Lib.hid (below_grown HB2.out hg3 HB2.out.size hg)
  have HR3 := Lib.hid (HR.out.grown hg3 HOFF.out)
  have HA3 := Lib.hid (H.out.ext HB3.out)
  have hsz3 := hg3.size
  have hfew := (allN_few q l).1
  have hcnt := cutS_count q [] l
  have hac := all_cut q l
  obtain ⟨ls, hls⟩ : ∃ ls, allN q l = ls := ⟨_, rfl⟩
  rw [hls] at hO hfew hac
  obtain ⟨n, hn⟩ : ∃ n, ls.length = n := ⟨_, rfl⟩
  obtain ⟨Ao, co, hvo, hco, _⟩ := hO.rbb
  rw [hn] at hvo hco hfew
  subst hvo
  have HO3 := Lib.hid hO
  have HN := Lib.hid hn
  clear hO ht3 hg3 hls hn HB2 HR HT2 HOFF HH1
  go_wp2_with fail
  refine (rcut_calls q HQ.out A c l w3 HA3.out hc (by omega)).mono ?_
  rintro e w4 ⟨vc, Rc, nr, cr, rfl, hOc, hRc, hnr, hcr, hblc, hb4⟩
  obtain ⟨outs, houts⟩ : ∃ s, (cutS q [] l).1 = s := ⟨_, rfl⟩
  obtain ⟨rest, hrest⟩ : ∃ s, (cutS q [] l).2 = s := ⟨_, rfl⟩
  rw [houts] at hOc hac hcnt
  rw [hrest] at hRc hnr hac
  obtain ⟨no, hno⟩ : ∃ n, outs.length = n := ⟨_, rfl⟩
  rw [hno] at hcnt
  obtain ⟨Ac, cc, hvc, hcc, _⟩ := hOc.rbb
  rw [hno] at hvc hcc
  subst hvc
  have HOC := Lib.hid hOc
  have HRC := Lib.hid hRc
  have HNR := Lib.hid hnr
  have HNO := Lib.hid hno
  have HAC := Lib.hid hac
  have HBLC := Lib.hid hblc
  have HO4 := Lib.hid (HO3.out.ext hb4)
  have HX4 : Hid (Below w2.heap.size w3 w4) := Lib.hid (hb4.mono hsz3)
  have hsz4 := hb4.size
  have HB34 := Lib.hid hb4
  have hww2 : w.heap.size ≤ w2.heap.size := HB2sz
  clear hOc hRc hnr hno hac hblc hb4 houts hrest HA3
  by_cases h0 : nr = 0
  · subst h0
    have HEQ : Hid (outs = ls) := Lib.hid (by rw [HAC.out, if_pos (List.eq_nil_of_length_eq_zero HNR.out), List.append_nil])
    have hnn : n = no := by rw [← HNO.out, ← HN.out, HEQ.out]
    subst hnn
    have HRW := Lib.hid (show RBB w4 Ac ls by
      obtain ⟨A', c', e, _, hr⟩ := HOC.out.rbb
      rw [HNO.out] at e
      injection e with ea _ _
      subst ea
      rw [← HEQ.out]
      exact hr)
    clear HOC HRC HNR HAC HBLC HEQ
    go_wp2_with fail
    refine (same_calls Ao Ac co cc n n ls ls HN.out HN.out w4 HO4.out.rbb' HRW.out (by omega) (by omega)).mono ?_
    rintro e wx ⟨rfl, rfl⟩
    rw [show (ls == ls) = true from by simp]
    have HIT := Lib.hid HO4.out.items
    obtain ⟨ns, hns⟩ : ∃ ns, ls.map List.length = ns := ⟨_, rfl⟩
    have HNS : Hid (ns.length = n) := Lib.hid (by rw [← hns, List.length_map, HN.out])
    rw [hns] at HIT
    clear hns
    go_wp2_with fail
    go_loopw [46] (fun i wr => ∃ k : Nat, k ≤ n ∧ i = .int .i64 k ∧ Hid (Items w2.heap.size wr (.slice Ao n co) ns) ∧ Hid (Below w2.heap.size w3 wr)) (fun i _ => n - (intOf i).toNat)
    case atStart => exact ⟨0, Nat.zero_le _, rfl, HIT, HX4⟩
    case round =>
      clear HIT
      obtain ⟨k, hk, rfl, HI, HX5⟩ := hrel
      by_cases hkn : k < n
      · have d1 : decide ((k : Int) < (n : Int)) = true := by simpa using hkn
        obtain ⟨bo, rfl, A1, c1, l1, hcell, ho1, hl1, hmx⟩ := HI.out.at HNS.out hkn
        obtain ⟨m, hm⟩ : ∃ m, ns.getD k 0 = m := ⟨_, rfl⟩
        rw [hm] at hcell hmx
        have HM := Lib.hid hm
        clear ho1 hl1 hm
        go_wp2_with fail
        go_loopw [54] (fun i wr => ∃ j : Nat, j ≤ m ∧ i = .int .i64 j ∧ Hid (Items w2.heap.size wr (.slice (some ⟨bo, 0, none⟩) n co) ns) ∧ Hid (Below w2.heap.size w3 wr)) (fun i _ => m - (intOf i).toNat)
        case atStart => exact ⟨0, Nat.zero_le _, rfl, HI, HX5⟩
        case round =>
          clear HI HX5 hcell
          obtain ⟨j, hj, rfl, HI, HX5⟩ := hrel
          by_cases hjm : j < m
          · have d2 : decide ((j : Int) < (m : Int)) = true := by simpa using hjm
            obtain ⟨bo', e', A1, c1, l1, hcell, ho1, hl1, _⟩ := HI.out.at HNS.out hkn
            cases e'
            rw [HM.out] at hcell ho1 hl1
            obtain ⟨x, cx, e1, hx1, _, _, _⟩ := ho1.block (by omega)
            injection e1 with ea eb ec
            subst ea
            clear eb ec
            obtain ⟨hcj, hfj⟩ := ho1.cell j (by omega)
            have hg8 := gb_lt l1 j
            obtain ⟨y, hy⟩ := flip (gb l1 j) hg8
            have HI2 := Lib.hid (HI.out.set ho1 j y)
            have HX6 := Lib.hid (HX5.out.setCell (p := ⟨x, j, none⟩) hx1 (.int .u8 (y.toNat : Int)))
            obtain ⟨gv, hgv⟩ : ∃ v, gb l1 j = v := ⟨_, rfl⟩
            rw [hgv] at hcj hg8 hy
            clear ho1 hl1 hgv HI HX5
            go_wp2
            exact ⟨⟨j + 1, by omega, by go_num, HI2, HX6⟩, by simp [intOf]; omega⟩
          · obtain rfl : j = m := by omega
            go_wp2
            exact ⟨⟨k + 1, by omega, by go_num, HI, HX5⟩, by simp [intOf]; omega⟩
      · obtain rfl : k = n := by omega
        have HBf : Hid (Below w.heap.size w _) := Lib.hid (HB3.out.trans (HX5.out.mono (by omega)))
        have HRf := Lib.hid (HR3.out.upto (fun h0 b o e => (HBLK.out h0 b o e).2) HX5.out)
        have HAf := Lib.hid (H.out.ext HBf.out)
        clear HI HX5
        go_wp2_with fail
        refine (equal_calls R A d c l l _ HRf.out HAf.out).mono ?_
        rintro e wx ⟨rfl, rfl⟩
        rw [show (l == l) = true from by simp]
        go_wp2_with fail
        refine (awake_calls _).mono ?_
        rintro e wy ⟨rfl, hb⟩
        have HBe := Lib.hid (HBf.out.trans (hb.mono HBf.out.size))
        clear hb
        go_wp2
        go_ret
        exact ⟨rfl, HBe.out⟩
  · have hn0 : 0 < nr := by omega
    have HEQ : Hid (outs ++ [rest] = ls) := Lib.hid (by rw [HAC.out, if_neg (by intro e; have := HNR.out; rw [e] at this; simp at this; omega)])
    go_wp2_with fail
    refine (clone2_calls w3.heap.size Ac cc no outs HNO.out w4 hsz4 HOC.out (by omega)).mono ?_
    rintro e w5 ⟨v5, rfl, hO5, hb5⟩
    have HO5 := Lib.hid (HO4.out.ext hb5)
    have HX5 : Hid (Below w2.heap.size w3 w5) := Lib.hid (HX4.out.trans (hb5.mono (by omega)))
    have hR5 := HRC.out.ext hb5
    have HB35 : Hid (Below w3.heap.size w3 w5) := Lib.hid (HB34.out.trans (hb5.mono hsz4))
    have hsz5 := hb5.size
    obtain ⟨A5, c5, hv5, _, _⟩ := hO5.rbb
    rw [HNO.out] at hv5
    subst hv5
    have hO6 := hO5.ext (ext_alloc w5 (.cells #[.slice Rc nr cr] 23))
    obtain ⟨vs, a6, b6, c6⟩ := hO6
    have A6 := Lib.hid a6
    have B6 := Lib.hid b6
    have C6 := Lib.hid c6
    have A6n : Hid ((w5.alloc (.cells #[.slice Rc nr cr] 23)).ownsRow w3.heap.size 23 1 (.slice A5 no c5) no vs) := Lib.hid (by rw [HNO.out] at a6; exact a6)
    have HR6 := Lib.hid (hR5.ext (ext_alloc w5 (.cells #[.slice Rc nr cr] 23)))
    have HO6 := Lib.hid (HO5.out.ext (ext_alloc w5 (.cells #[.slice Rc nr cr] 23)))
    have HX6 : Hid (Below w2.heap.size w3 (w5.alloc (.cells #[.slice Rc nr cr] 23))) := Lib.hid (HX5.out.alloc (by omega) _)
    clear a6 b6 c6 hO5 hb5 hR5 HO5 HX5 HOC HRC HO4 HX4
    go_wp2_with (at_builtin; refine wpList_app rfl _ _ 28 rfl w3.heap.size 23 (.slice none 0 0) 24 Try.underlying28 infoS rfl (by decide) _ no vs rfl A6n.out _ _ _ [.slice Rc nr cr] rfl rfl (RV.lit1 w5 _ _) (by simp [Value.oneCell']) (by omega) (by simp; omega) ?_)
    intro v7 w7 a7 hg7 hb7
    have hO7 := OutR.push (c' := cr) A6.out B6.out C6.out HNR.out HR6.out hcr HBLC.out (by rw [HNO.out]; exact a7) hg7
    rw [HEQ.out] at hO7
    obtain ⟨A7, c7, hv7, _, hr7⟩ := hO7.rbb
    rw [HN.out] at hv7
    have HRW := Lib.hid hr7
    have hx7 : Below w3.heap.size (w5.alloc (.cells #[.slice Rc nr cr] 23)) w7 := (Below.refl _ _).grown hg7 (by simp; omega) (fun x hx => (A6.out.lt x hx).1)
    have HX7 : Hid (Below w2.heap.size w3 w7) := Lib.hid (HX6.out.trans (hx7.mono hsz3))
    have HO7 : Hid (OutIs w2.heap.size w7 (.slice Ao n co) (.slice none 0 0) ls) := Lib.hid (HO3.out.ext ((HB35.out.alloc (by omega) _).trans hx7))
    subst hv7
    clear hO7 a7 hg7 hb7 hr7 hx7 A6 A6n B6 C6 HR6 HO6 HX6 HAC HEQ HNR HNO HBLC
    go_wp2_with fail
    refine (same_calls Ao A7 co c7 n n ls ls HN.out HN.out w7 HO7.out.rbb' HRW.out (by omega) (by omega)).mono ?_
    rintro e wx ⟨rfl, rfl⟩
    rw [show (ls == ls) = true from by simp]
    have HIT := Lib.hid HO7.out.items
    obtain ⟨ns, hns⟩ : ∃ ns, ls.map List.length = ns := ⟨_, rfl⟩
    have HNS : Hid (ns.length = n) := Lib.hid (by rw [← hns, List.length_map, HN.out])
    rw [hns] at HIT
    clear hns
    go_wp2_with fail
    go_loopw [46] (fun i wr => ∃ k : Nat, k ≤ n ∧ i = .int .i64 k ∧ Hid (Items w2.heap.size wr (.slice Ao n co) ns) ∧ Hid (Below w2.heap.size w3 wr)) (fun i _ => n - (intOf i).toNat)
    case atStart => exact ⟨0, Nat.zero_le _, rfl, HIT, HX7⟩
    case round =>
      clear HIT
      obtain ⟨k, hk, rfl, HI, HX5⟩ := hrel
      by_cases hkn : k < n
      · have d1 : decide ((k : Int) < (n : Int)) = true := by simpa using hkn
        obtain ⟨bo, rfl, A1, c1, l1, hcell, ho1, hl1, hmx⟩ := HI.out.at HNS.out hkn
        obtain ⟨m, hm⟩ : ∃ m, ns.getD k 0 = m := ⟨_, rfl⟩
        rw [hm] at hcell hmx
        have HM := Lib.hid hm
        clear ho1 hl1 hm
        go_wp2_with fail
        go_loopw [54] (fun i wr => ∃ j : Nat, j ≤ m ∧ i = .int .i64 j ∧ Hid (Items w2.heap.size wr (.slice (some ⟨bo, 0, none⟩) n co) ns) ∧ Hid (Below w2.heap.size w3 wr)) (fun i _ => m - (intOf i).toNat)
        case atStart => exact ⟨0, Nat.zero_le _, rfl, HI, HX5⟩
        case round =>
          clear HI HX5 hcell
          obtain ⟨j, hj, rfl, HI, HX5⟩ := hrel
          by_cases hjm : j < m
          · have d2 : decide ((j : Int) < (m : Int)) = true := by simpa using hjm
            obtain ⟨bo', e', A1, c1, l1, hcell, ho1, hl1, _⟩ := HI.out.at HNS.out hkn
            cases e'
            rw [HM.out] at hcell ho1 hl1
            obtain ⟨x, cx, e1, hx1, _, _, _⟩ := ho1.block (by omega)
            injection e1 with ea eb ec
            subst ea
            clear eb ec
            obtain ⟨hcj, hfj⟩ := ho1.cell j (by omega)
            have hg8 := gb_lt l1 j
            obtain ⟨y, hy⟩ := flip (gb l1 j) hg8
            have HI2 := Lib.hid (HI.out.set ho1 j y)
            have HX6 := Lib.hid (HX5.out.setCell (p := ⟨x, j, none⟩) hx1 (.int .u8 (y.toNat : Int)))
            obtain ⟨gv, hgv⟩ : ∃ v, gb l1 j = v := ⟨_, rfl⟩
            rw [hgv] at hcj hg8 hy
            clear ho1 hl1 hgv HI HX5
            go_wp2
            exact ⟨⟨j + 1, by omega, by go_num, HI2, HX6⟩, by simp [intOf]; omega⟩
          · obtain rfl : j = m := by omega
            go_wp2
            exact ⟨⟨k + 1, by omega, by go_num, HI, HX5⟩, by simp [intOf]; omega⟩
      · obtain rfl : k = n := by omega
        have HBf : Hid (Below w.heap.size w _) := Lib.hid (HB3.out.trans (HX5.out.mono (by omega)))
        have HRf := Lib.hid (HR3.out.upto (fun h0 b o e => (HBLK.out h0 b o e).2) HX5.out)
        have HAf := Lib.hid (H.out.ext HBf.out)
        clear HI HX5
        go_wp2_with fail
        refine (equal_calls R A d c l l _ HRf.out HAf.out).mono ?_
        rintro e wx ⟨rfl, rfl⟩
        rw [show (l == l) = true from by simp]
        go_wp2_with fail
        refine (awake_calls _).mono ?_
        rintro e wy ⟨rfl, hb⟩
        have HBe := Lib.hid (HBf.out.trans (hb.mono HBf.out.size))
        clear hb
        go_wp2
        go_ret
        exact ⟨rfl, HBe.out⟩
end Go.Proofs.Ytmohjgcnhibkoaa
