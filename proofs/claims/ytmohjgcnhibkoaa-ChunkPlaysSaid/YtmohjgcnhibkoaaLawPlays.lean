/- The walk of the law ChunkPlays. -/
import Derived.Test.YtmohjgcnhibkoaaChunkI
import Derived.Test.YtmohjgcnhibkoaaLawCAll
namespace Go.Proofs.Ytmohjgcnhibkoaa
open Go.RowKit
set_option linter.unusedVariables false

theorem equal_n (A B : Option Addr) (c d n m : Nat) (l1 l2 : List UInt8) (hn : l1.length = n) (hm : l2.length = m) (w : World) (h : RB w A l1) (k : RB w B l2) :
    Calls Try.prog 23 #[.slice A n c, .slice B m d] w fun e w' => e = .returned (.bool (l1 == l2)) ∧ w = w' := by
  subst hn hm
  exact equal_calls A B c d l1 l2 w h k
theorem clone_n (A : Option Addr) (c n : Nat) (l : List UInt8) (hn : l.length = n) (w : World) (h : RB w A l) (hl : n ≤ 100000) :
    Calls Try.prog 19 #[.slice A n c] w fun e w' => ∃ R d, e = .returned (.slice R n d) ∧ RB w' R l ∧ OwnB w.heap.size 5 w' (.slice R n d) l ∧ Below w.heap.size w w' := by
  subst hn
  refine (clone_calls A c l w h (by omega)).mono ?_
  rintro e w' ⟨v, rfl, ho, hb⟩
  obtain ⟨R, d, rfl, hr, _, _⟩ := ho.form
  exact ⟨R, d, rfl, hr, ho, hb⟩
theorem concat2n {w : World} {A B : Option Addr} {c d n m : Nat} {l k : List UInt8} (hl : l.length = n) (hk : k.length = m) (h : RB w A l) (h2 : RB w B k) (hc : n ≤ c) (hd : m ≤ d) (e : TypeId) :
    RBB (w.alloc (.cells #[.slice A n c, .slice B m d] e)) (some ⟨w.heap.size, 0, none⟩) [l, k] := by
  subst hl hk
  exact concat2 h h2 hc hd e
theorem rcut_n (p : Nat) (hp : bl p = 32) (F : Nat → Prop) (A : Option Addr) (c n : Nat) (l : List UInt8) (hn : l.length = n) (w : World) (h : RB w A l) (hc : n ≤ c) (hl : n ≤ 100000) (hF : 0 < n → ∀ b o, A = some ⟨b, o, none⟩ → F b) (outs : List (List UInt8)) (rest : List UInt8) (hcut : cutS p [] l = (outs, rest)) :
    Calls Try.prog 20 #[.int .u64 (p : Int), .slice A n c] w fun e w' => ∃ vo R nr cr, e = .returned (.tuple #[vo, .slice R nr cr]) ∧ OutR w.heap.size w' vo outs ∧ RB w' R rest ∧ rest.length = nr ∧ nr ≤ cr ∧ (0 < nr → ∀ b o, R = some ⟨b, o, none⟩ → b < w.heap.size ∧ F b) ∧ Below w.heap.size w w' := by
  subst hn
  have := rcut_at p hp F A c l w h hc hl hF
  rw [hcut] at this
  exact this
theorem RB.grown_row {w w' : World} {A : Option Addr} {l : List UInt8} {row : Option Nat} (h : RB w A l) (e : w.grownBy w' row) (ho : 0 < l.length → ∀ b o, A = some ⟨b, o, none⟩ → row ≠ some b) : RB w' A l := fun i hi => by
  obtain ⟨b, o, rfl, hc⟩ := h i hi
  exact ⟨b, o, rfl, (World.cell?_of_block (e.block b (World.block_lt_of_cell? w _ hc) (Ne.symm (ho (by omega) b o rfl)))).trans hc⟩
set_option maxRecDepth 100000 in
set_option maxHeartbeats 4000000 in
theorem plays_walk (w : World) (p : Nat) (hp : p ≤ 18446744073709551615) (A : Option Addr) (c : Nat) (l : List (Int × List UInt8)) (h : RDo w A l) (hc : l.length ≤ c) (hm : c ≤ maxLen) :
    Calls Try.prog 11 #[.int .u64 (p : Int), .slice A l.length c] w fun e w' => e = .returned (.bool true) ∧ Below w.heap.size w w' := by
  have HP := Lib.hid (U64.of hp)
  have H := Lib.hid h
  clear hp h
  go_enter Try.func11, Try.ntmps11
  go_wp2_with fail
  refine (short_calls A c l w H.out hc hm).mono ?_
  rintro e w1 ⟨ok, rfl, hok, rfl⟩
  cases ok with
  | false =>
    go_wp2_with fail
    refine (awake_calls w).mono ?_
    rintro e w2 ⟨rfl, hb⟩
    have HB := Lib.hid hb
    clear hb
    go_wp2
    go_ret
    exact ⟨rfl, HB.out⟩
  | true =>
    obtain ⟨hl1, hl2⟩ := hok rfl
    have HTOT := Lib.hid hl2
    clear hok hl2
    go_wp2_with fail
    refine (table_calls p HP.out w).mono ?_
    rintro e w1 ⟨g, rfl, ht, hg, hb⟩
    have hq := tabP_bl p
    generalize tabP p = q at *
    have HQ := Lib.hid hq
    have HT := Lib.hid ht
    have HB := Lib.hid hb
    have hgl := HT.out.lt
    clear hq ht hb
    go_wp2_with fail
    refine (cnew_calls w.heap.size g q HQ.out w1 HT.out).mono ?_
    rintro e w2 ⟨k, r, rfl, hk, hr, hC, hG⟩
    have HC := Lib.hid hC
    have HB2 : Hid (Below w.heap.size w w2) := Lib.hid (below_grown HB.out hG HB.out.size hg)
    have hsz1 := HB.out.size
    have wk : w.heap.size ≤ k := by omega
    have wrr : w.heap.size ≤ r := by omega
    clear hC hG HB HT
    go_wp2_with fail
    go_loopw [7, 28] (fun vr i W => ∃ (n m cm : Nat) (R : Option Addr) (v : Value) (L pend : List UInt8), n ≤ l.length ∧ i = .int .i64 n ∧ vr = .slice R m cm ∧ m ≤ cm ∧ m < 256 ∧ Hid (pend.length = m) ∧ Hid (cutS q [] pend = ([], pend)) ∧ Hid (∃ P, L = P ++ pend) ∧ Hid (RB W R pend) ∧ Hid (0 < m → ∀ b o, R = some ⟨b, o, none⟩ → b ∉ own k r v) ∧ Hid (CutIs w.heap.size W k r g q v L pend) ∧ Hid (Below w.heap.size w W)) (fun _ i _ => l.length - (intOf i).toNat)
    case atStart => exact ⟨0, 0, 0, none, .slice none 0 0, [], [], Nat.zero_le _, rfl, rfl, by omega, by omega, Lib.hid rfl, Lib.hid rfl, Lib.hid ⟨[], rfl⟩, Lib.hid (RB.nil _ _), Lib.hid (fun h => absurd h (by omega)), HC, HB2⟩
    case round =>
      clear HC HB2
      obtain ⟨n, m, cm, R, v, L, pend, hn, rfl, rfl, hmc, hm5, HPL, HCP, HLP, HRR, HRO, HC, HB⟩ := hrel
      by_cases hnl : n < l.length
      · have d1 : decide ((n : Int) < (l.length : Int)) = true := by simpa using hnl
        obtain ⟨b, o, A', c', rfl, hc0, hc1, hr1, hc2, hcm, z1, z2⟩ := H.out n hnl
        have hc0 := (HB.out.cell (p := ⟨b, o + 2 * n, none⟩) (World.block_lt_of_cell? w _ hc0)).trans hc0
        have hc1 := (HB.out.cell (p := ⟨b, o + (2 * n + 1), none⟩) (World.block_lt_of_cell? w _ hc1)).trans hc1
        have hby := totD_each l n l.length hnl HTOT.out
        obtain ⟨z, hz⟩ : ∃ z, (l.getD n (0, [])).1 = z := ⟨_, rfl⟩
        obtain ⟨y, hy⟩ : ∃ y, (l.getD n (0, [])).2 = y := ⟨_, rfl⟩
        rw [hz] at hc0 z1 z2
        rw [hy] at hc1 hr1 hc2 hby
        rw [show o + 2 * n = o + n * 2 by omega] at hc0
        rw [show o + (2 * n + 1) = o + n * 2 + 1 by omega] at hc1
        obtain ⟨ny, hny⟩ : ∃ ny, y.length = ny := ⟨_, rfl⟩
        rw [hny] at hc1 hc2 hby
        have HYW := Lib.hid hr1
        have HR1 := Lib.hid (hr1.ext HB.out)
        have HNY := Lib.hid hny
        obtain ⟨x, hx, hx64⟩ := u64_some' z
        obtain ⟨j, hj, hj5⟩ : ∃ j : Nat, (x : Int).tmod 5 = j ∧ j < 5 := ⟨x % 5, tmod_nat' x 5, Nat.mod_lt _ (by omega)⟩
        clear hz hy hr1 hny
        go_upto_region 9 with fail
        have hC9 := HC.out.ext (ext_alloc wr (.cells #[.int .i64 z, .slice A' ny c'] 75))
        have hR9 := HRR.out.ext (ext_alloc wr (.cells #[.int .i64 z, .slice A' ny c'] 75))
        have hB9 : Below w.heap.size w (wr.alloc (.cells #[.int .i64 z, .slice A' ny c'] 75)) := HB.out.alloc HB.out.size _
        have hk9 : BK (wr.alloc (.cells #[.int .i64 z, .slice A' ny c'] 75)) wr.heap.size 75 [.int .i64 z, .slice A' ny c'] := BK.new wr _ [.int .i64 z, .slice A' ny c']
        have hr9 := HR1.out.ext (ext_alloc wr (.cells #[.int .i64 z, .slice A' ny c'] 75))
        obtain ⟨gk, hgk⟩ : ∃ x, wr.heap.size = x := ⟨_, rfl⟩
        rw [hgk] at hk9
        rw [hgk]
        generalize wr.alloc (.cells #[.int .i64 z, .slice A' ny c'] 75) = w9 at *
        have HC9 := Lib.hid hC9
        have HR9 := Lib.hid hR9
        have HB9 := Lib.hid hB9
        have HK9 := Lib.hid hk9
        have HY9 := Lib.hid hr9
        have c90 : w9.cell? ⟨gk, 0, none⟩ = some (.int .i64 z) := hk9.cell rfl
        have c91 : w9.cell? ⟨gk, 1, none⟩ = some (.slice A' ny c') := hk9.cell rfl
        have hw9 : w.heap.size ≤ w9.heap.size := hB9.size
        clear hC9 hR9 hB9 hk9 hr9 HC HRR HB HR1 hc0 hc1 hgk
        by_cases h4 : j = 4
        · subst h4
          have hoff : 0 < pend.length → Off k R := fun h0 b o e hb => HRO.out (by have := HPL.out; omega) b o e (by subst hb; simp [own])
          have HOFF := Lib.hid hoff
          clear hoff c91
          go_wp2_with fail
          refine (flush_calls HC9.out (by rw [HPL.out]; omega)).mono ?_
          rintro e w5 ⟨u, rfl, hu, hc5, hg5⟩
          obtain ⟨Au, cu, hvu, hru, _, _⟩ := hu.form
          rw [HPL.out] at hvu
          subst hvu
          have HRU := Lib.hid hru
          have HR5 := Lib.hid (HR9.out.grown hg5 HOFF.out)
          have HC5 := Lib.hid hc5
          have HB5 : Hid (Below w.heap.size w w5) := Lib.hid (below_grown HB9.out hg5 hw9 wk)
          clear hu hru hc5 hg5 c90
          go_wp2_with fail
          refine (equal_n Au R cu cm m m pend pend HPL.out HPL.out w5 HRU.out HR5.out).mono ?_
          rintro e w6 ⟨rfl, rfl⟩
          rw [show (pend == pend) = true from by simp]
          go_wp2_with fail
          refine (pending_calls HC5.out).mono ?_
          rintro e w6 ⟨rfl, rfl⟩
          rw [List.length_nil]
          go_wp2
          exact ⟨⟨n + 1, 0, 0, none, .slice none 0 0, L, [], by omega, by go_num, rfl, by omega, by omega, Lib.hid rfl, Lib.hid rfl, Lib.hid ⟨L, by simp⟩, Lib.hid (RB.nil _ _), Lib.hid (fun h => absurd h (by omega)), HC5, HB5⟩, by simp [intOf]; omega⟩
        · have d4 : ((j : Int) == 4) = false := beq_eq_false_iff_ne.2 (by omega)
          obtain ⟨P, hP⟩ := HLP.out
          have HPP := Lib.hid hP
          clear hP
          go_wp2_with fail
          refine (clone_n A' c' ny y HNY.out w9 HY9.out (by omega)).mono ?_
          rintro e wa ⟨RG, cG, rfl, hrG, hoG, hbG⟩
          have hsza := hbG.size
          have HGL : Hid (∀ b, (Value.slice RG ny cG).ownBlock = some b → w9.heap.size ≤ b ∧ b < wa.heap.size) := Lib.hid fun b e => hoG.lt b e
          have HSV : Hid (∀ x ∈ own k r v, w.heap.size ≤ x ∧ x < w9.heap.size) := Lib.hid (by
            intro x hx
            simp only [own, List.mem_cons, Option.mem_toList] at hx
            rcases hx with rfl | rfl | hx
            · exact ⟨wk, HC9.out.c.lt⟩
            · exact ⟨wrr, HC9.out.roll.lt⟩
            · exact HC9.out.o.lt x hx)
          have HGO : Hid (0 < ny → ∀ b o, RG = some ⟨b, o, none⟩ → b ∉ own k r v) := Lib.hid fun _ b o e hx => by
            have h1 := (HGL.out b (by rw [e]; rfl)).1
            have h2 := (HSV.out b hx).2
            omega
          have HKO : Hid (gk ∉ own k r v) := Lib.hid (by
            intro hx
            simp only [own, List.mem_cons, Option.mem_toList] at hx
            rcases hx with e | e | hx
            · exact bk_ne HK9.out HC9.out.c (by decide) e
            · obtain ⟨cs, hr⟩ := HC9.out.rb
              exact bk_ne HK9.out hr (by decide) e
            · exact own_ne_bk HC9.out.o HK9.out (by decide) hx)
          have HRa := Lib.hid (HR9.out.ext hbG)
          have HKa := Lib.hid (HK9.out.ext hbG)
          have HBa : Hid (Below w.heap.size w wa) := Lib.hid (HB9.out.trans (hbG.mono hw9))
          have HCa := Lib.hid (HC9.out.ext hbG)
          have HRG := Lib.hid hrG
          have HOG := Lib.hid hoG
          clear hrG hoG hbG c90 c91
          go_wp2_with fail
          refine (write_n HQ.out HPP.out HCa.out (by have := HPL.out; omega) (by omega) RG cG ny y HNY.out HRG.out HGO.out (by omega)).mono ?_
          rintro e wb ⟨vo, v1, rfl, hO, hC, hG, hV⟩
          have hszb := hG.size
          have HKb := Lib.hid (HKa.out.same (hG.block gk HKa.out.lt HKO.out))
          have HRb := Lib.hid (hG.rb HRa.out (fun h0 => HRO.out (by have := HPL.out; omega)))
          have HOGb : Hid (OwnB w9.heap.size 5 wb (.slice RG ny cG) y) := Lib.hid (own_chg HOG.out hG (fun x hx k => by
            have h1 := (HGL.out x hx).1
            have h2 := (HSV.out x k).2
            omega))
          have HBb : Hid (Below w.heap.size w wb) := Lib.hid (HBa.out.trans (hG.below (by omega) (fun x hx => (HSV.out x hx).1)))
          have hlt := cutS_lt q pend y (by have := HPL.out; omega)
          have hjn := cutS_join q pend y
          have hcp := cut_pend HCP.out y
          have hcp' := cut_pend' HCP.out y
          have hcnt := cutS_count q pend y
          obtain ⟨outs, houts⟩ : ∃ s, (cutS q pend y).1 = s := ⟨_, rfl⟩
          obtain ⟨rest, hrest⟩ : ∃ s, (cutS q pend y).2 = s := ⟨_, rfl⟩
          have hcut : cutS q [] (pend ++ y) = (outs, rest) := by rw [hcp, ← houts, ← hrest]
          rw [houts] at hO hjn hcnt
          rw [hrest] at hC hlt hjn hcp'
          have HLP2 : Hid (∃ P', L ++ y = P' ++ rest) := Lib.hid ⟨P ++ outs.flatten, by rw [HPP.out, List.append_assoc, List.append_assoc, hjn]⟩
          obtain ⟨F, hF⟩ : ∃ F, pend ++ y = F := ⟨_, rfl⟩
          have hFl : F.length = m + ny := by rw [← hF, List.length_append, HPL.out, HNY.out]
          have HF := Lib.hid hF
          rw [hF] at hcut
          obtain ⟨nd, hnd⟩ : ∃ nd, m + ny = nd := ⟨_, rfl⟩
          rw [hnd] at hFl
          have hndl : nd ≤ 100000 := by omega
          have HFL := Lib.hid hFl
          have HCUT := Lib.hid hcut
          have HCP2 := Lib.hid hcp'
          obtain ⟨no, hno⟩ : ∃ n, outs.length = n := ⟨_, rfl⟩
          rw [hno, HNY.out] at hcnt
          obtain ⟨Ao, co, hvo, hco, _⟩ := hO.rbb
          rw [hno] at hvo hco
          have HNO := Lib.hid hno
          subst hvo
          have HO := Lib.hid hO
          have HCb := Lib.hid hC
          have HV := Lib.hid hV
          have HND := Lib.hid hnd
          obtain ⟨nr0, hnr0⟩ : ∃ n, rest.length = n := ⟨_, rfl⟩
          rw [hnr0] at hlt
          have HNR0 := Lib.hid hnr0
          clear hO hC hG hV hjn hcp hcp' houts hrest hcut hF hFl hno hnd hnr0 HRa HKa HBa HCa HRG HOG HRO
          go_wp2_with fail
          go_loopw [56] (fun i W => ∃ j : Nat, j ≤ ny ∧ i = .int .i64 j ∧ Hid (∃ y', y'.length = ny ∧ OwnB w9.heap.size 5 W (.slice RG ny cG) y') ∧ Hid (wb.grownBy W (Value.slice RG ny cG).ownBlock)) (fun i _ => ny - (intOf i).toNat)
          case atStart => exact ⟨0, Nat.zero_le _, rfl, Lib.hid ⟨y, HNY.out, HOGb.out⟩, Lib.hid (grown_refl _ _)⟩
          case round =>
            obtain ⟨jj, hjj, rfl, HY2, HGR⟩ := hrel
            by_cases hjn : jj < ny
            · have d2 : decide ((jj : Int) < (ny : Int)) = true := by simpa using hjn
              obtain ⟨y1, hy1l, ho1⟩ := HY2.out
              obtain ⟨x, cx, e1, hx1, _, _, _⟩ := ho1.block (by omega)
              injection e1 with ea eb ec
              subst ea
              clear eb ec
              obtain ⟨hcj, hfj⟩ := ho1.cell jj (by omega)
              have hg8 := gb_lt y1 jj
              obtain ⟨y2, hy2⟩ := flip (gb y1 jj) hg8
              have HY3 : Hid (∃ y', y'.length = ny ∧ OwnB w9.heap.size 5 (wr.setCell ⟨x, jj, none⟩ (.int .u8 (y2.toNat : Int))) (.slice (some ⟨x, 0, none⟩) ny cG) y') := Lib.hid ⟨y1.set jj y2, by rw [List.length_set, hy1l], ho1.set jj y2⟩
              have HGR3 : Hid (wb.grownBy (wr.setCell ⟨x, jj, none⟩ (.int .u8 (y2.toNat : Int))) (Value.slice (some ⟨x, 0, none⟩) ny cG).ownBlock) := Lib.hid (grown_trans HGR.out (grown_setCell wr x jj _))
              obtain ⟨gv, hgv⟩ : ∃ v, gb y1 jj = v := ⟨_, rfl⟩
              rw [hgv] at hcj hg8 hy2
              clear ho1 hy1l hgv HY2 HGR
              go_wp2
              exact ⟨⟨jj + 1, by omega, by go_num, HY3, HGR3⟩, by simp [intOf]; omega⟩
            · obtain rfl : ny = jj := by omega
              clear hjj hjn HY2
              have HCc : Hid (CutIs w.heap.size wr k r g q v1 (L ++ y) rest) := Lib.hid (HCb.out.kept HGR.out (own_ne_bk HOGb.out HCb.out.c (by decide)) (by obtain ⟨cs, hr⟩ := HCb.out.rb; exact own_ne_bk HOGb.out hr (by decide)) (own_ne_bk HOGb.out HCb.out.tab (by decide)) (by
                cases e1 : v1.ownBlock with
                | none => exact .inl rfl
                | some x =>
                  refine .inr fun e2 => ?_
                  have h1 := HGL.out x e2.symm
                  rcases HV.out with a | a | ⟨z, a, hz⟩
                  · rw [e1] at a
                    have := (HSV.out x (own_v a.symm)).2
                    omega
                  · rw [e1] at a; cases a
                  · rw [e1] at a; cases a; omega))
              have HOc : Hid (OutIs wa.heap.size wr (.slice Ao no co) v1 outs) := Lib.hid (by
                obtain ⟨vs, a, b, c⟩ := HO.out
                refine HO.out.kept HGR.out (own_ne_own a HOGb.out (by decide)) fun u ⟨i, hi, ho⟩ _ => ?_
                cases e1 : u.ownBlock with
                | none => exact .inl rfl
                | some x =>
                  refine .inr fun e2 => ?_
                  have h1 := HGL.out x e2.symm
                  have h2 := ho.lt x e1
                  omega)
              have hRc : RB wr R pend := HRb.out.grown_row HGR.out (fun h0 b o e1 e2 => by
                have h1 := HGL.out b e2
                obtain ⟨b2, o2, e3, hcl⟩ := HR9.out 0 h0
                have hlt := World.block_lt_of_cell? w9 _ hcl
                rw [e1] at e3
                cases e3
                simp only at hlt
                omega)
              have hKc : BK wr gk 75 [.int .i64 z, .slice A' ny c'] := HKb.out.same (HGR.out.block gk HKb.out.lt (Ne.symm (own_ne_bk HOGb.out HKb.out (by decide))))
              have hszc := HGR.out.size
              have HBc : Hid (Below w.heap.size w wr) := Lib.hid (HBb.out.grown HGR.out (by omega) (fun x hx => by have := HGL.out x hx; omega))
              have c91 : wr.cell? ⟨gk, 1, none⟩ = some (.slice A' ny c') := hKc.cell rfl
              have HCAT := Lib.hid (concat2n HPL.out HNY.out hRc (HYW.out.ext HBc.out) hmc hc2 23)
              have hszw := HBb.out.size
              have HSV1 : Hid (∀ x ∈ own k r v1, x < wr.heap.size) := Lib.hid (by
                intro x hx
                simp only [own, List.mem_cons, Option.mem_toList] at hx
                rcases hx with rfl | rfl | hx
                · exact HCc.out.c.lt
                · exact HCc.out.roll.lt
                · exact (HCc.out.o.lt x hx).2)
              clear hRc hKc HCb HO HRb HKb HBb HGR HOGb HV
              go_wp2_with fail
              refine (concat_n (some ⟨wr.heap.size, 0, none⟩) 2 2 [pend, y] rfl _ HCAT.out (by decide) F (by simp [HF.out]) (by rw [HFL.out]; exact hndl)).mono ?_
              rintro e wd ⟨vd, rfl, hod, hbd⟩
              obtain ⟨Ad, cd, hvd, hrd, hcd, _⟩ := hod.form
              rw [HFL.out] at hvd hcd
              have hbd' : Below wr.heap.size wr wd := (ext_alloc wr _).trans (hbd.mono (by simp))
              have HFD : Hid (0 < nd → ∀ b o, Ad = some ⟨b, o, none⟩ → wr.heap.size ≤ b) := Lib.hid fun _ b o e => by
                have := (hod.lt b (by rw [hvd, e]; rfl)).1
                simp at this
                omega
              have hszd := hbd'.size
              have HCd := Lib.hid (HCc.out.ext hbd')
              have HOd := Lib.hid (HOc.out.ext hbd')
              have HBd : Hid (Below w.heap.size w wd) := Lib.hid (HBc.out.trans (hbd'.mono (by omega)))
              have HRD := Lib.hid hrd
              subst hvd
              clear hod hrd hbd hbd' HCAT HCc HOc HBc c91
              go_wp2_with fail
              refine (rcut_n q HQ.out (fun b => wr.heap.size ≤ b) Ad cd nd F HFL.out wd HRD.out hcd hndl HFD.out outs rest HCUT.out).mono ?_
              rintro e we ⟨vw, RL, nr, cr, rfl, hOw, hRL, hnr, hcr, hbl, hbe⟩
              obtain ⟨Aw, cw, hvw, _, hrw⟩ := hOw.rbb
              rw [HNO.out] at hvw
              subst hvw
              have hnrr : nr = nr0 := by rw [← hnr, HNR0.out]
              subst hnrr
              have HRW := Lib.hid hrw
              have HCe := Lib.hid (HCd.out.ext hbe)
              have HOe := Lib.hid (HOd.out.ext hbe)
              have HBe : Hid (Below w.heap.size w we) := Lib.hid (HBd.out.trans (hbe.mono (by omega)))
              have HRL := Lib.hid hRL
              have HRO2 : Hid (0 < nr → ∀ b o, RL = some ⟨b, o, none⟩ → b ∉ own k r v1) := Lib.hid fun h0 b o e hx => by
                have h1 := (hbl h0 b o e).2
                have h2 := HSV1.out b hx
                omega
              clear hOw hrw hbe hRL hnr hbl HCd HOd HBd HRD
              go_wp2_with fail
              refine (same_calls Ao Aw co cw no no outs outs HNO.out HNO.out we HOe.out.rbb' HRW.out (by omega) (by omega)).mono ?_
              rintro e wx ⟨rfl, rfl⟩
              rw [show (outs == outs) = true from by simp]
              go_wp2_with fail
              refine (pending_calls HCe.out).mono ?_
              rintro e wx ⟨rfl, rfl⟩
              rw [HNR0.out]
              go_wp2
              exact ⟨⟨n + 1, nr, cr, RL, v1, L ++ y, rest, by omega, by go_num, rfl, hcr, hlt, HNR0, HCP2, HLP2, HRL, HRO2, HCe, HBe⟩, by simp [intOf]; omega⟩
      · obtain rfl : n = l.length := by omega
        have hoff : 0 < pend.length → Off k R := fun h0 b o e hb => HRO.out (by have := HPL.out; omega) b o e (by subst hb; simp [own])
        have HOFF := Lib.hid hoff
        have hsw := HB.out.size
        clear hoff
        go_wp2_with fail
        refine (flush_calls HC.out (by rw [HPL.out]; omega)).mono ?_
        rintro e w5 ⟨u, rfl, hu, hc5, hg5⟩
        obtain ⟨Au, cu, hvu, hru, _, _⟩ := hu.form
        rw [HPL.out] at hvu
        subst hvu
        have HRU := Lib.hid hru
        have HR5 := Lib.hid ((HRR.out).grown hg5 HOFF.out)
        have HB5 : Hid (Below w.heap.size w w5) := Lib.hid (below_grown HB.out hg5 hsw wk)
        clear hu hru hc5 hg5
        go_wp2_with fail
        refine (equal_n Au R cu cm m m pend pend HPL.out HPL.out w5 HRU.out HR5.out).mono ?_
        rintro e w6 ⟨rfl, rfl⟩
        rw [show (pend == pend) = true from by simp]
        go_wp2_with fail
        refine (awake_calls w5).mono ?_
        rintro e w6 ⟨rfl, hb⟩
        have HB6 := Lib.hid (HB5.out.trans (hb.mono HB5.out.size))
        clear hb
        go_wp2
        go_ret
        exact ⟨rfl, HB6.out⟩
end Go.Proofs.Ytmohjgcnhibkoaa
