/- flumelaw13's does: the walk (regions 9, 16, 18 printed by gen.py, specs do9, do16, do18). -/
import Derived.Test.YtjhnnnklfhbebaaTiF
import Derived.Test.YtjhnnnklfhbebaaInu
namespace Go.Proofs.Ytjhnnnklfhbebaa
open Go.RowKit
set_option linter.unusedVariables false
set_option linter.unusedSimpArgs false
theorem RB.only {w w' : World} {A : Option Addr} {l : List UInt8} {own : Nat → Prop} (h : RB w A l) (ho : Only own w w') (hA : 0 < l.length → ∀ b o, A = some ⟨b, o, none⟩ → ¬ own b) : RB w' A l := fun i hi => by
  obtain ⟨b, o, rfl, hc⟩ := h i hi
  refine ⟨b, o, rfl, ?_⟩
  have hlt := World.block_lt_of_cell? w _ hc
  rw [← hc]
  unfold World.cell?
  rw [ho.block b hlt (hA (by omega) b o rfl)]
theorem u64_wrap (x : Int) : IntKind.u64.wrap x = (u64N x : Int) := by
  rw [IntKind.wrap_u64]
  unfold u64N
  omega
def WrAt (N : Nat → Prop) (l : List Item) (w0 : World) (j : Nat) (ls : List UInt8) (v : Value) (W : World) : Prop := Goes N l w0 (l.set j (Item.bytes v ls)) W ∧ ∃ A m c, v = .slice A m c
def DoneAt (N : Nat → Prop) (l : List Item) (w0 : World) (g : Nat) (P : PS) (box : Item) (W : World) : Prop := ∃ V4, Goes N l w0 (pItems g P V4 ++ [box]) W ∧ KOk P V4
theorem ph3_0 {e1 e2 e3 : Nat} {A0 : World → Prop} {A1 A2 : Value → World → Prop} {A3 : World → Prop} {u : Nat → Value} {W : World} (h : A0 W) : Ph3 e1 e2 e3 A0 A1 A2 A3 (fun _ => false) u W := by
  unfold Ph3
  exact h
def RdAt (N : Nat → Prop) (l : List Item) (w0 : World) (j : Nat) (kb : Option Nat) (s : TS) (bs : List UInt8) (v : Value) (W : World) : Prop := ∃ vp, Goes N l w0 (l.set j (Item.side kb s vp) ++ [Item.bytes v bs]) W ∧ ∃ A m c, v = .slice A m c
def RdAt2 (N : Nat → Prop) (l : List Item) (w0 : World) (j : Nat) (kb : Option Nat) (s : TS) (bs : List UInt8) (q : Nat) (ls : List UInt8) (v : Value) (W : World) : Prop := ∃ vp v1, Goes N l w0 ((l.set j (Item.side kb s vp) ++ [Item.bytes v1 bs]).set q (Item.bytes v ls)) W ∧ ∃ A m c, v = .slice A m c
theorem read_goes {N : Nat → Prop} {l : List Item} {w w' : World} {j : Nat} {kb : Option Nat} {vp : Value} {s s' : TS} {b : List UInt8} {e : Ending} (hj : l[j]? = some (Item.side kb s vp)) (h : ReadJ N l w j kb vp s s' b e w') : ∃ v vp', e = .returned v ∧ Goes N l w (l.set j (Item.side kb s' vp') ++ [Item.bytes v b]) w' ∧ ∃ A m c, v = .slice A m c := by
  obtain ⟨ho, v, vp', rfl, ha, hown, hb⟩ := h
  obtain ⟨A, c, e, _⟩ := hb.form
  exact ⟨v, vp', rfl, Goes.snoc hj ha ho hown (fun b hb2 => .inr (hb.blockLt b hb2).1), A, _, c, e⟩
/-- A row of bytes that has grown. -/
theorem bytes_grown {N : Nat → Prop} {l : List Item} {w w' : World} {j : Nat} {v v' : Value} {l1 l2 : List UInt8} (h : All N l w) (hj : l[j]? = some (Item.bytes v l1)) (ho : OwnB 0 5 w' v' (l1 ++ l2)) (hg : w.grownBy w' v.ownBlock) (hv : v'.ownBlock = v.ownBlock ∨ v'.ownBlock = some w.heap.size) : Goes N l w (l.set j (Item.bytes v' (l1 ++ l2))) w' := by
  have hk := h.get j hj
  have hob : ∀ b, v'.ownBlock = some b → v.ownBlock = some b ∨ w.heap.size ≤ b := fun b hb => by
    rcases hv with e | e
    · exact .inl (e ▸ hb)
    · rw [e] at hb
      have := Option.some.inj hb
      exact .inr (by omega)
  have hon : Only (Item.bytes v l1).own w w' := grown_only hg
  refine Goes.set hj (h.set j hj (Item.bytes v' (l1 ++ l2)) hon hob ⟨ho, fun b hb => ?_⟩) hon hob
  rcases hob b hb with e | e
  · exact hk.2 b e
  · intro hn
    have := h.hN j b hn
    omega
theorem outp_st (s : TS) : s.outp.2.state = s.state := by unfold TS.outp; split <;> rfl
theorem outI_st (P : PS) (i j : Nat) : ((P.outI i).c j).state = (P.c j).state := by
  show (fset P.c i (P.c i).outp.2 j).state = _
  unfold fset
  split
  · rename_i e
    rw [e, outp_st]
  · rfl
theorem out_st (P : PS) {j : Nat} (hj : j < 2) : (P.out.c j).state = 0 ↔ (P.c j).state = 0 := by
  unfold PS.out
  rw [outI_st, outI_st]
section
variable {N : Nat → Prop} {w : World} {g : Nat} {P : PS} {V : PV} {m : Nat}
set_option maxRecDepth 100000 in
set_option maxHeartbeats 4000000 in
theorem does_calls (h : All N (pItems g P V) w) (hk : KOk P V) (hf : PGood P m) (hm : m ≤ 100000000) (k : ActA) (A : Option Addr) (c : Nat) (ha : ActA.At w k A c) (hb : k.b.length ≤ 9223372036854775807) (hA : 0 < k.b.length → ∀ b o, A = some ⟨b, o, none⟩ → N b) :
    Calls Try.prog 23 #[.pointer (some ⟨g, 0, none⟩), .agg (k.cs A c).toArray] w fun e w' => e = .returned (.tuple #[]) ∧ ∃ V', Goes N (pItems g P V) w (pItems g (P.does k) V') w' ∧ KOk (P.does k) V' := by
  have HKO := Lib.hid hk
  have HGD := Lib.hid hf
  have HAT := Lib.hid ha
  have HAN := Lib.hid hA
  obtain ⟨gx, hgx⟩ : ∃ gx, w.heap.size = gx := ⟨_, rfl⟩
  have HG0 : Hid (Goes N (pItems g P V) w (pItems g P V ++ [Item.bk gx 46 (k.cs A c)]) (w.alloc (.cells (k.cs A c).toArray 46))) := Lib.hid (by
    have h1 := Goes.add (K := Item.bk w.heap.size 46 (k.cs A c)) h (ext_alloc w (.cells (k.cs A c).toArray 46)) (fun b hb => Nat.le_of_eq hb.symm) ⟨BK.new _ _ _, fun e => by
      rcases e with e | e
      · have := h.1 _ e
        omega
      · have := h.own_lt _ e
        omega⟩
    rw [hgx] at h1
    exact h1)
  have HRB : Hid (∀ (l : List Item) (W : World), Goes N (pItems g P V) w l W → RB W A k.b) := Lib.hid fun l W hg => ha.rb.only hg.only fun h0 b o e hx => h.own_no b hx (hA h0 b o e)
  have hop0 := ha.op0
  have hop1 := ha.op1
  have hat0 := ha.at0
  have hat1 := ha.at1
  clear h hk hf ha hA
  obtain ⟨i, hi⟩ : ∃ i, sideN k = i := ⟨_, rfl⟩
  have hi2 : i < 2 := hi ▸ sideN_lt k
  have hsd : bits .and .i64 k.side 1 = (i : Int) := by
    rw [← hi]
    unfold sideN
    rcases fbit1 k.side with e | e <;> rw [e] <;> rfl
  obtain ⟨U, hU⟩ : ∃ U, u64N k.op = U := ⟨_, rfl⟩
  have hU64 : U < 18446744073709551616 := by rw [← hU]; unfold u64N; omega
  have hwU : IntKind.u64.wrap k.op = (U : Int) := by rw [u64_wrap, hU]
  obtain ⟨o, ho⟩ : ∃ o, U % 11 = o := ⟨_, rfl⟩
  have ho11 : o < 11 := by omega
  have hmo : (U : Int).tmod 11 = (o : Int) := by rw [← ho]; exact (Int.ofNat_tmod U 11).symm
  have hwo : IntKind.i64.wrap (o : Int) = (o : Int) := IntWalk.i64_in _ (by omega)
  have HI := Lib.hid hi
  have HO : Hid (opN k = o) := Lib.hid (by unfold opN; rw [hU]; exact ho)
  simp only [ActA.cs] at HG0 ⊢
  clear hi hU ho
  go_enter Try.func23, Try.ntmps23
  go_upto_region 1 with fail
  refine name_world (fun W => Goes N (pItems g P V) w (pItems g P V ++ [Item.bk gx 46 (k.cs A c)]) W) HG0.out ?_
  intro w1 hg1
  have HG1 := Lib.hid hg1
  have hbk1 := (hg1.all.get 0 (get_snoc_lt p_bk)).1
  have hx1 := (hg1.all.get 9 (show (pItems g P V ++ [Item.bk gx 46 (k.cs A c)])[9]? = some (Item.bk gx 46 (k.cs A c)) from rfl)).1
  obtain ⟨kb, hkb⟩ : ∃ kb, V.k i = kb := ⟨_, rfl⟩
  obtain ⟨pv, hpv⟩ : ∃ pv, ptr kb = pv := ⟨_, rfl⟩
  have ci : w1.cell? ⟨g, i, none⟩ = some pv := by rw [← hpv, ← hkb]; exact hbk1.cell (c_ptr hi2)
  have x0 : w1.cell? ⟨gx, 0, none⟩ = some (.int .i64 k.op) := hx1.cell rfl
  have x1 : w1.cell? ⟨gx, 1, none⟩ = some (.int .i64 k.side) := hx1.cell rfl
  have HPV := Lib.hid hpv
  have HKB := Lib.hid hkb
  have hgl := hbk1.lt
  have hii : (i : Int) < 2 := by omega
  clear hg1 HG0 hbk1 hx1 hpv hkb hgx
  obtain ⟨s, hs⟩ : ∃ s, P.c i = s := ⟨_, rfl⟩
  have hsd1 : (pItems g P V ++ [Item.bk gx 46 (k.cs A c)])[1 + i]? = some (Item.side kb s (V.v i)) := by rw [← HKB.out, ← hs]; exact get_snoc_lt (p_side hi2)
  have hfi := HGD.out.fine.fine i hi2
  have hem := HGD.out.fine.empty i hi2
  rw [hs] at hfi hem
  have HFI := Lib.hid hfi
  have HPE : Hid (s.pack.length ≤ 0) := Lib.hid (by rw [hem]; exact Nat.le_refl _)
  have HSD1 := Lib.hid hsd1
  have HSS := Lib.hid hs
  -- what a call on the endpoint leaves
  have HKS : Hid (∀ (s' : TS) (V' : PV), V'.k = V.k → TS.Went s s' → (s = TS.zero → s' = TS.zero) → KOk (P.setC i s') V') := Lib.hid fun s' V' hv hw hz j hj => by
    have h0 := HKO.out j hj
    show V'.k j = none ↔ (fset P.c i s' j).state = 0
    rw [hv]
    by_cases e : j = i
    · subst e
      rw [fset_at]
      rw [hs] at h0
      refine h0.trans ⟨fun e => ?_, fun e => ?_⟩
      · have hzz := HGD.out.zok j hj (by rw [hs]; exact e)
        rw [hs] at hzz
        rw [hz hzz]
        rfl
      · rcases Nat.eq_zero_or_pos s.state with h1 | h1
        · exact h1
        · exact absurd e (hw.st (by omega))
    · rw [fset_no _ _ e]
      exact h0
  have HSB : Hid (∀ (s' : TS) (v : Value) (e : Ending) (w' : World), DidJ N (pItems g P V ++ [Item.bk gx 46 (k.cs A c)]) w1 (1 + i) kb (V.v i) s s' v e w' → TS.Went s s' → (s = TS.zero → s' = TS.zero) → e = .returned v ∧ ∃ V1, Goes N (pItems g P V) w (pItems g (P.setC i s') V1 ++ [Item.bk gx 46 (k.cs A c)]) w' ∧ KOk (P.setC i s') V1) := Lib.hid fun s' v e w' hd hw hz => by
    obtain ⟨rfl, vp', hgo⟩ := Goes.did hsd1 hd
    rw [set_snoc (p_side hi2), ← HKB.out, p_set_side hi2] at hgo
    refine ⟨rfl, { V with v := fset V.v i vp' }, HG1.out.trans hgo, fun j hj => ?_⟩
    have h0 := HKO.out j hj
    show V.k j = none ↔ (fset P.c i s' j).state = 0
    by_cases e : j = i
    · subst e
      rw [fset_at]
      rw [hs] at h0
      refine h0.trans ⟨fun e => ?_, fun e => ?_⟩
      · have hzz := HGD.out.zok j hj (by rw [hs]; exact e)
        rw [hs] at hzz
        rw [hz hzz]
        rfl
      · rcases Nat.eq_zero_or_pos s.state with h1 | h1
        · exact h1
        · exact absurd e (hw.st (by omega))
    · rw [fset_no _ _ e]
      exact h0
  have HSC : Hid (∀ (s' : TS) (v : Value) (e : Ending) (w' : World), DidJ N (pItems g P V ++ [Item.bk gx 46 (k.cs A c)]) w1 (1 + i) kb (V.v i) s s' v e w' → TS.Went s s' → (s = TS.zero → s' = TS.zero) → e = .returned v ∧ ∃ V1, Goes N (pItems g P V) w (pItems g (P.setC i s') V1) w' ∧ KOk (P.setC i s') V1) := Lib.hid fun s' v e w' hd hw hz => by
    obtain ⟨rfl, V1, h1, h2⟩ := HSB.out s' v e w' hd hw hz
    exact ⟨rfl, V1, h1.pop, h2⟩
  have HTI := Lib.hid (side_tick HG1.out.all hsd1 hfi.ok (by have := HPE.out; omega))
  have HCL := Lib.hid (side_close HG1.out.all hsd1 hfi.ok (by have := HPE.out; omega))
  have HAB := Lib.hid (side_abort HG1.out.all hsd1 (hfi.ok.bd (by have := HPE.out; omega)))
  rw [HPV.out] at HTI HCL HAB
  obtain ⟨D, hD⟩ : ∃ D, P.does0 k = D := ⟨_, rfl⟩
  have HD : Hid (D = if o = 4 ∨ o = 5 then P.setC i s.tick else if o = 6 then (P.setC i (s.write k.b).2).setW i (P.wr i ++ k.b.take (s.write k.b).1) else if o = 7 then (P.setC i (s.read k.n).2).setR i (P.rd i ++ (s.read k.n).1) else if o = 9 then (if k.n = 0 then P.setC i s.close else P) else if o = 10 then (if k.n = 0 then P.setC i s.abort else P) else if (P.bag i).length = 0 then P else if o = 8 then P.lose i (u64N k.at_ % (P.bag i).length) else P.comes i (u64N k.at_ % (P.bag i).length) k.stay) := Lib.hid (by rw [← hD]; unfold PS.does0; rw [HI.out, HO.out]; dsimp only; rw [hs])
  have HDD := Lib.hid hD
  clear hs hsd1 hfi hem hD
  go_upto_block 0 with fail
  go_cut [] from 24 to 128 (fun wc => Hid (∃ V1, Goes N (pItems g P V) w (pItems g D V1) wc ∧ KOk D V1))
  case first =>
    have x3 : w1.cell? ⟨gx, 3, none⟩ = some (.int .i64 k.n) := (HG1.out.all.get 9 (show (pItems g P V ++ [Item.bk gx 46 (k.cs A c)])[9]? = some (Item.bk gx 46 (k.cs A c)) from rfl)).1.cell rfl
    by_cases h45 : o = 4 ∨ o = 5
    · have HX : Hid (D = P.setC i s.tick) := Lib.hid (by rw [HD.out, if_pos h45])
      rcases h45 with rfl | rfl
      · clear HD
        go_wp2_with fail
        refine HTI.out.mono ?_
        intro e w9 hd
        obtain ⟨rfl, V9, hg9, hk9⟩ := HSC.out _ _ _ _ hd (TS.went_tick HFI.out.ok HFI.out.qu) (fun e => by rw [e]; rfl)
        have H9 := Lib.hid (show _ ∧ _ from ⟨hg9, hk9⟩)
        clear hd hg9 hk9 HTI
        go_wp2_with fail
        go_meet
        case rel => exact Lib.hid (by rw [HX.out]; exact ⟨V9, H9.out.1, H9.out.2⟩)
      · clear HD
        go_wp2_with fail
        refine HTI.out.mono ?_
        intro e w9 hd
        obtain ⟨rfl, V9, hg9, hk9⟩ := HSC.out _ _ _ _ hd (TS.went_tick HFI.out.ok HFI.out.qu) (fun e => by rw [e]; rfl)
        have H9 := Lib.hid (show _ ∧ _ from ⟨hg9, hk9⟩)
        clear hd hg9 hk9 HTI
        go_wp2_with fail
        go_meet
        case rel => exact Lib.hid (by rw [HX.out]; exact ⟨V9, H9.out.1, H9.out.2⟩)
    · have e4 : ¬ o = 4 := fun e => h45 (.inl e)
      have e5 : ¬ o = 5 := fun e => h45 (.inr e)
      have i4 : ((o : Int) == 4) = false := beq_eq_false_iff_ne.2 (by omega)
      have i5 : ((o : Int) == 5) = false := beq_eq_false_iff_ne.2 (by omega)
      by_cases h6 : o = 6
      · have HX : Hid (D = (P.setC i (s.write k.b).2).setW i (P.wr i ++ k.b.take (s.write k.b).1)) := Lib.hid (by rw [HD.out, if_neg h45, if_pos h6])
        subst h6
        clear HD
        obtain ⟨bl, hbl⟩ : ∃ bl, k.b.length = bl := ⟨_, rfl⟩
        have HBL := Lib.hid hbl
        have x4 : w1.cell? ⟨gx, 4, none⟩ = some (.slice A bl c) := by rw [← hbl]; exact (HG1.out.all.get 9 (show (pItems g P V ++ [Item.bk gx 46 (k.cs A c)])[9]? = some (Item.bk gx 46 (k.cs A c)) from rfl)).1.cell rfl
        have hbc : bl ≤ c := by rw [← hbl]; exact HAT.out.bc
        have HWR := Lib.hid (side_write HG1.out.all HSD1.out HFI.out.ok (by have := HPE.out; omega) A bl c k.b hbl (by omega) hbc (HRB.out _ _ HG1.out))
        rw [HPV.out] at HWR
        obtain ⟨n, hn⟩ : ∃ n, (s.write k.b).1 = n := ⟨_, rfl⟩
        have hnb : n ≤ bl := by
          rw [← hn, ← hbl]
          unfold TS.write
          split
          · exact Nat.zero_le _
          · exact Nat.min_le_left _ _
        have hbl5 : n ≤ 1024 := by
          rw [← hn]
          unfold TS.write
          split
          · exact Nat.zero_le _
          · show min k.b.length (1024 - s.out.length) ≤ 1024
            omega
        rw [hn] at HWR HX
        obtain ⟨s', hs'⟩ : ∃ s', (s.write k.b).2 = s' := ⟨_, rfl⟩
        rw [hs'] at HWR HX
        have HW6 : Hid (TS.Went s s' ∧ (s = TS.zero → s' = TS.zero)) := Lib.hid (by rw [← hs']; exact ⟨TS.went_write HFI.out.ok HFI.out.qu k.b, fun e => by rw [e]; rfl⟩)
        have hni : (n : Int) ≤ (bl : Int) := by omega
        have hni2 : (n : Int) ≤ (c : Int) := by omega
        clear hbl hn hs' hbc
        go_wp2_with fail
        refine HWR.out.mono ?_
        intro e w3 hd
        obtain ⟨rfl, V3, hg3, hk3⟩ := HSB.out _ _ _ _ hd HW6.out.1 HW6.out.2
        have HG3 := Lib.hid hg3
        have HK3 := Lib.hid hk3
        clear hd hg3 hk3 HWR x4
        go_upto_region 16 with fail
        obtain ⟨L3, hL3⟩ : ∃ L3, pItems g (P.setC i s') V3 ++ [Item.bk gx 46 (k.cs A c)] = L3 := ⟨_, rfl⟩
        have ha3 := HG3.out.all
        rw [hL3] at ha3
        have hb0 : L3[0]? = some (Item.bk g 53 (pCells (P.setC i s') V3)) := by rw [← hL3]; exact get_snoc_lt p_bk
        obtain ⟨vw, hvw⟩ : ∃ vw, V3.w i = vw := ⟨_, rfl⟩
        have hit : L3[5 + i]? = some (Item.bytes vw (P.wr i)) := by rw [← hL3, ← hvw]; exact get_snoc_lt (p_wr hi2)
        have hx9 : L3[9]? = some (Item.bk gx 46 (k.cs A c)) := by rw [← hL3]; rfl
        obtain ⟨Aw, cw, hvf, _⟩ := (ha3.get _ hit).1.form
        obtain ⟨wl, hwl⟩ : ∃ wl, (P.wr i).length = wl := ⟨_, rfl⟩
        rw [hwl] at hvf
        obtain ⟨ls, hls⟩ : ∃ ls, P.wr i ++ k.b.take n = ls := ⟨_, rfl⟩
        obtain ⟨P4, hP4⟩ : ∃ P4, (P.setC i s').setW i ls = P4 := ⟨_, rfl⟩
        have hcells : ∀ W : World, BK W g 53 (pCells (P.setC i s') V3) → BK W gx 46 (k.cs A c) → W.cell? ⟨g, 5 + i, none⟩ = some vw ∧ W.frozen? ⟨g, 5 + i, none⟩ = false ∧ W.cell? ⟨gx, 4, none⟩ = some (.slice A bl c) := fun W h1 h2 => ⟨by rw [← hvw]; exact h1.cell (c_wr hi2), h1.frozen _, by rw [← HBL.out]; exact h2.cell rfl⟩
        have HR0 : Hid (∀ W : World, Below w3.heap.size w3 W → W.cell? ⟨g, 5 + i, none⟩ = some vw ∧ W.frozen? ⟨g, 5 + i, none⟩ = false ∧ W.cell? ⟨gx, 4, none⟩ = some (.slice A bl c)) := Lib.hid fun W hW => hcells W ((ha3.get 0 hb0).1.ext hW) ((ha3.get 9 hx9).1.ext hW)
        have HR2 : Hid (∀ (v : Value) (W : World), WrAt N L3 w3 (5 + i) ls v W → W.cell? ⟨g, 5 + i, none⟩ = some vw ∧ W.frozen? ⟨g, 5 + i, none⟩ = false ∧ W.cell? ⟨gx, 4, none⟩ = some (.slice A bl c)) := Lib.hid fun v W hW => by
          have h1 : (L3.set (5 + i) (Item.bytes v ls))[0]? = some (Item.bk g 53 (pCells (P.setC i s') V3)) := by rw [getElem?_set_ne _ (by omega)]; exact hb0
          have h2 : (L3.set (5 + i) (Item.bytes v ls))[9]? = some (Item.bk gx 46 (k.cs A c)) := by rw [getElem?_set_ne _ (by omega)]; exact hx9
          exact hcells W (hW.1.all.get 0 h1).1 (hW.1.all.get 9 h2).1
        have HAP : Hid (∀ (W : World) (v : Value) (W' : World), Below w3.heap.size w3 W → OwnB 0 5 W' v (P.wr i ++ k.b.take n) → W.grownBy W' vw.ownBlock → (v.ownBlock = vw.ownBlock ∨ v.ownBlock = some W.heap.size) → WrAt N L3 w3 (5 + i) ls v W') := Lib.hid fun W v W' hW ho hg hv => by
          have h1 := (Goes.refl ha3).ext hW
          have h2 := h1.trans (bytes_grown h1.all hit ho hg hv)
          rw [hls] at h2
          obtain ⟨A7, c7, e7, _⟩ := ho.form
          exact ⟨h2, A7, _, c7, e7⟩
        have HFIN : Hid (∀ (W : World) (v : Value), WrAt N L3 w3 (5 + i) ls v W → DoneAt N L3 w3 g P4 (Item.bk gx 46 (k.cs A c)) (W.setCell ⟨g, 5 + i, none⟩ v)) := Lib.hid fun W v hW => by
          have hb1 : (L3.set (5 + i) (Item.bytes v ls))[0]? = some (Item.bk g 53 (pCells (P.setC i s') V3)) := by rw [getElem?_set_ne _ (by omega)]; exact hb0
          have h1 := hW.1.trans (Goes.bk hW.1.all hb1 (5 + i) v)
          refine ⟨{ V3 with w := fset V3.w i v }, ?_, by rw [← hP4]; exact HK3.out⟩
          have hb2 : ((pItems g (P.setC i s') V3).set (5 + i) (Item.bytes v ls))[0]? = some (Item.bk g 53 (pCells (P.setC i s') V3)) := by rw [getElem?_set_ne _ (by omega)]; rfl
          rw [← hL3, set_snoc (p_wr hi2), set_snoc hb2, p_set_wr hi2] at h1
          rw [← hL3, ← hP4]
          exact h1
        have HRBW : Hid (∀ W : World, Below w3.heap.size w3 W → RB W A (k.b.take n)) := Lib.hid fun W hW => ((HRB.out _ _ HG3.out).ext hW).take n
        have HLN : Hid ((k.b.take n).length = n) := Lib.hid (by rw [List.length_take, HBL.out]; omega)
        have HWL : Hid ((P.wr i).length ≤ 1024 * m) := Lib.hid (HGD.out.fine.wr i hi2)
        have HL3 := Lib.hid hL3
        have HA3 := Lib.hid ha3
        have HIT := Lib.hid hit
        have HP4 : Hid ((P.setC i s').setW i (P.wr i ++ k.b.take n) = P4) := Lib.hid (by rw [hls]; exact hP4)
        clear hL3 ha3 hb0 hvw hit hx9 hls hP4 hcells hwl
        subst hvf
        refine wp_region_inu [[], [], [], [], [2], [2, 4], [2, 3, 4, 5], [2, 3, 4, 5, 6], [], [8], [], [8, 9, 10], [2, 3, 4, 5, 6, 7, 8, 9, 10, 11], [0], [0, 13], [0, 1, 2, 3, 4, 5, 6, 7, 8, 9, 10, 11, 12, 13, 14], [0, 1, 2, 3, 4, 5, 6, 7, 8, 9, 10, 11, 12, 13, 14, 15]]
          [fun u => u = .pointer (some ⟨g, 0, none⟩),
           fun u => u = .int .i64 (i : Int),
           fun u => u = .pointer (some ⟨g, 0, none⟩),
           fun u => u = .int .i64 (i : Int),
           fun u => u = .pointer (some ⟨g, 0, none⟩),
           fun u => u = .pointer (some ⟨g, 5, none⟩),
           fun u => u = .pointer (some ⟨g, 5 + i, none⟩),
           fun u => u = .slice Aw wl cw,
           fun u => u = .pointer (some ⟨gx, 4, none⟩),
           fun u => u = .slice A bl c,
           fun u => u = .int .i64 (n : Int),
           fun u => u = .slice A n c,
           fun _ => True,
           fun u => u = .pointer (some ⟨g, 0, none⟩),
           fun u => u = .pointer (some ⟨g, 5, none⟩),
           fun u => u = .pointer (some ⟨g, 5 + i, none⟩),
           fun _ => True]
          (fun u => ⟨#[Value.pointer (some { block := g, off := 0 }), Value.agg #[Value.int IntKind.i64 k.op, Value.int IntKind.i64 k.side, Value.int IntKind.i64 k.at_, Value.int IntKind.i64 k.n, Value.slice A k.b.length c, Value.bool k.stay], undef, Value.pointer (some { block := gx, off := 0 }), Value.int IntKind.i64 (i : Int), pv, Value.int IntKind.i64 6, Value.int IntKind.i64 (n : Int), undef, undef, Value.pointer (some { block := gx, off := 1 }), Value.int IntKind.i64 k.side, Value.int IntKind.i64 (i : Int), Value.pointer (some { block := g, off := 0 }), Value.int IntKind.i64 (i : Int), Value.pointer (some { block := g, off := 0 }), Value.pointer (some { block := g, off := 0 }), Value.pointer (some { block := g, off := i }), pv, Value.pointer (some { block := gx, off := 0 }), Value.int IntKind.i64 k.op, Value.int IntKind.u64 (U : Int), Value.int IntKind.u64 6, Value.int IntKind.i64 6, Value.int IntKind.i64 6, undef, undef, undef, undef, undef, undef, undef, undef, undef, undef, undef, undef, undef, undef, undef, undef, undef, undef, undef, undef, undef, undef, undef, undef, undef, undef, undef, undef, undef, undef, undef, undef, undef, undef, undef, undef, undef, undef, undef, undef, Value.bool false, Value.bool false, Value.bool false, undef, undef, Value.bool true, Value.bool true, pv, Value.pointer (some { block := gx, off := 4 }), Value.slice A bl c, Value.int IntKind.i64 (n : Int), u 0, u 1, u 2, u 3, u 4, u 5, u 6, u 7, u 8, u 9, u 10, u 11, u 12, u 13, u 14, u 15, undef, undef, undef, undef, undef, undef, undef, undef, undef, undef, undef, undef, undef, undef, undef, undef, undef, undef, undef, undef, undef, undef, undef, undef, undef, undef, undef, undef, undef, undef, undef, undef, undef, undef, undef, undef, undef, undef, undef], []⟩)
          (Ph3 12 12 16 (fun W => Below w3.heap.size w3 W) (WrAt N L3 w3 (5 + i) ls) (WrAt N L3 w3 (5 + i) ls) (DoneAt N L3 w3 g P4 (Item.bk gx 46 (k.cs A c)))) (fun j => [undef, undef, undef, undef, undef, undef, undef, undef, undef, undef, undef, undef, undef, undef, undef, undef, undef].getD j undef) (by kernel_rfl) (by kernel_rfl) (by kernel_rfl) rfl (ph3_0 (Below.refl _ _).drew) ?_ ?_
        · refine ⟨?_, ?_, ?_, ?_, ?_, ?_, ?_, ?_, ?_, ?_, ?_, ?_, ?_, ?_, ?_, ?_, ?_, trivial⟩
          · intro bb u w2 hv hbi hC hF J K hJ hK
            have HV := Lib.hid hv
            have HF := Lib.hid hF
            have HC := Lib.hid hC
            have HBI := Lib.hid hbi
            clear hv hF hC hbi
            go_wp2
            exact hJ _ _ _ (ph3_other (by decide) (by decide) (by decide) HV.out) (rfl) (by simp [setU] <;> omega)
          · intro bb u w2 hv hbi hC hF J K hJ hK
            have HV := Lib.hid hv
            have HF := Lib.hid hF
            have HC := Lib.hid hC
            have HBI := Lib.hid hbi
            clear hv hF hC hbi
            go_wp2
            exact hJ _ _ _ (ph3_other (by decide) (by decide) (by decide) HV.out) (rfl) (by simp [setU] <;> omega)
          · intro bb u w2 hv hbi hC hF J K hJ hK
            have HV := Lib.hid hv
            have HF := Lib.hid hF
            have HC := Lib.hid hC
            have HBI := Lib.hid hbi
            clear hv hF hC hbi
            go_wp2
            exact hJ _ _ _ (ph3_other (by decide) (by decide) (by decide) HV.out) (rfl) (by simp [setU] <;> omega)
          · intro bb u w2 hv hbi hC hF J K hJ hK
            have HV := Lib.hid hv
            have HF := Lib.hid hF
            have HC := Lib.hid hC
            have HBI := Lib.hid hbi
            clear hv hF hC hbi
            go_wp2
            exact hJ _ _ _ (ph3_other (by decide) (by decide) (by decide) HV.out) (rfl) (by simp [setU] <;> omega)
          · intro bb u w2 hv hbi hC hF J K hJ hK
            have HV := Lib.hid hv
            have HF := Lib.hid hF
            have HC := Lib.hid hC
            have HBI := Lib.hid hbi
            clear hv hF hC hbi
            have f2 : u 2 = .pointer (some ⟨g, 0, none⟩) := (HF.out 2 (by decide)).2
            go_wp2
            exact hJ _ _ _ (ph3_other (by decide) (by decide) (by decide) HV.out) (rfl) (by simp [setU, f2] <;> omega)
          · intro bb u w2 hv hbi hC hF J K hJ hK
            have HV := Lib.hid hv
            have HF := Lib.hid hF
            have HC := Lib.hid hC
            have HBI := Lib.hid hbi
            clear hv hF hC hbi
            have f4 : u 4 = .pointer (some ⟨g, 0, none⟩) := (HF.out 4 (by decide)).2
            go_wp2
            exact hJ _ _ _ (ph3_other (by decide) (by decide) (by decide) HV.out) (rfl) (by simp [setU, f4] <;> omega)
          · intro bb u w2 hv hbi hC hF J K hJ hK
            have HV := Lib.hid hv
            have HF := Lib.hid hF
            have HC := Lib.hid hC
            have HBI := Lib.hid hbi
            clear hv hF hC hbi
            have f3 : u 3 = .int .i64 (i : Int) := (HF.out 3 (by decide)).2
            have f5 : u 5 = .pointer (some ⟨g, 5, none⟩) := (HF.out 5 (by decide)).2
            go_wp2
            exact hJ _ _ _ (ph3_other (by decide) (by decide) (by decide) HV.out) (rfl) (by simp [setU, f3, f5] <;> omega)
          · intro bb u w2 hv hbi hC hF J K hJ hK
            have HV := Lib.hid hv
            have HF := Lib.hid hF
            have HC := Lib.hid hC
            have HBI := Lib.hid hbi
            clear hv hF hC hbi
            have f6 : u 6 = .pointer (some ⟨g, 5 + i, none⟩) := (HF.out 6 (by decide)).2
            have cc := (ph3_R (R := fun W => W.cell? ⟨g, 5 + i, none⟩ = some (.slice Aw wl cw) ∧ W.frozen? ⟨g, 5 + i, none⟩ = false ∧ W.cell? ⟨gx, 4, none⟩ = some (.slice A bl c)) HR0.out HR2.out HR2.out (not_yet HC.out HBI.out (by decide)) HV.out).1
            go_wp2
            exact hJ _ _ _ (ph3_other (by decide) (by decide) (by decide) HV.out) (rfl) (by simp [setU, f6] <;> omega)
          · intro bb u w2 hv hbi hC hF J K hJ hK
            have HV := Lib.hid hv
            have HF := Lib.hid hF
            have HC := Lib.hid hC
            have HBI := Lib.hid hbi
            clear hv hF hC hbi
            go_wp2
            exact hJ _ _ _ (ph3_other (by decide) (by decide) (by decide) HV.out) (rfl) (by simp [setU] <;> omega)
          · intro bb u w2 hv hbi hC hF J K hJ hK
            have HV := Lib.hid hv
            have HF := Lib.hid hF
            have HC := Lib.hid hC
            have HBI := Lib.hid hbi
            clear hv hF hC hbi
            have f8 : u 8 = .pointer (some ⟨gx, 4, none⟩) := (HF.out 8 (by decide)).2
            have cc := (ph3_R (R := fun W => W.cell? ⟨g, 5 + i, none⟩ = some (.slice Aw wl cw) ∧ W.frozen? ⟨g, 5 + i, none⟩ = false ∧ W.cell? ⟨gx, 4, none⟩ = some (.slice A bl c)) HR0.out HR2.out HR2.out (not_yet HC.out HBI.out (by decide)) HV.out).2.2
            go_wp2
            exact hJ _ _ _ (ph3_other (by decide) (by decide) (by decide) HV.out) (rfl) (by simp [setU, f8] <;> omega)
          · intro bb u w2 hv hbi hC hF J K hJ hK
            have HV := Lib.hid hv
            have HF := Lib.hid hF
            have HC := Lib.hid hC
            have HBI := Lib.hid hbi
            clear hv hF hC hbi
            go_wp2
            exact hJ _ _ _ (ph3_other (by decide) (by decide) (by decide) HV.out) (rfl) (by simp [setU] <;> omega)
          · intro bb u w2 hv hbi hC hF J K hJ hK
            have HV := Lib.hid hv
            have HF := Lib.hid hF
            have HC := Lib.hid hC
            have HBI := Lib.hid hbi
            clear hv hF hC hbi
            have f9 : u 9 = .slice A bl c := (HF.out 9 (by decide)).2
            have f10 : u 10 = .int .i64 (n : Int) := (HF.out 10 (by decide)).2
            go_wp2
            exact hJ _ _ _ (ph3_other (by decide) (by decide) (by decide) HV.out) (rfl) (by simp [setU, f9, f10] <;> omega)
          · intro bb u w2 hv hbi hC hF J K hJ hK
            have HV := Lib.hid hv
            have HF := Lib.hid hF
            have HC := Lib.hid hC
            have HBI := Lib.hid hbi
            clear hv hF hC hbi
            have f7 : u 7 = .slice Aw wl cw := (HF.out 7 (by decide)).2
            have f11 : u 11 = .slice A n c := (HF.out 11 (by decide)).2
            have h0 := ph3_e0 HBI.out HBI.out (not_yet HC.out HBI.out (by decide)) HV.out
            have hal := HA3.out.ext h0
            have how := (hal.get _ HIT.out).1
            have HAL := Lib.hid hal
            have HH0 := Lib.hid h0
            have HOW := Lib.hid how
            have HRW := Lib.hid (HRBW.out w2 h0)
            clear h0 hal how
            dsimp only
            rw [f7, f11]
            refine wpList_appB rfl _ _ 30 rfl 0 5 Try.underlying30 infoB (.slice Aw wl cw) (P.wr i) rfl HOW.out A n c (k.b.take n) rfl HLN.out HRW.out (by rw [HLN.out]; have := HWL.out; omega) (Nat.zero_le _) ?_
            intro v4 w4 ho4 hg4 hv4
            have HW4 : Hid (WrAt N L3 w3 (5 + i) ls v4 w4) := Lib.hid (HAP.out w2 v4 w4 HH0.out ho4 hg4 hv4)
            clear ho4 hg4 hv4
            go_wp2
            exact hJ _ _ _ (ph3_at2 (by decide) (not_yet HC.out HBI.out (by decide)) HW4.out) (trivial) (by simp [setU, f7, f11] <;> omega)
          · intro bb u w2 hv hbi hC hF J K hJ hK
            have HV := Lib.hid hv
            have HF := Lib.hid hF
            have HC := Lib.hid hC
            have HBI := Lib.hid hbi
            clear hv hF hC hbi
            have f0 : u 0 = .pointer (some ⟨g, 0, none⟩) := (HF.out 0 (by decide)).2
            go_wp2
            exact hJ _ _ _ (ph3_other (by decide) (by decide) (by decide) HV.out) (rfl) (by simp [setU, f0] <;> omega)
          · intro bb u w2 hv hbi hC hF J K hJ hK
            have HV := Lib.hid hv
            have HF := Lib.hid hF
            have HC := Lib.hid hC
            have HBI := Lib.hid hbi
            clear hv hF hC hbi
            have f13 : u 13 = .pointer (some ⟨g, 0, none⟩) := (HF.out 13 (by decide)).2
            go_wp2
            exact hJ _ _ _ (ph3_other (by decide) (by decide) (by decide) HV.out) (rfl) (by simp [setU, f13] <;> omega)
          · intro bb u w2 hv hbi hC hF J K hJ hK
            have HV := Lib.hid hv
            have HF := Lib.hid hF
            have HC := Lib.hid hC
            have HBI := Lib.hid hbi
            clear hv hF hC hbi
            have f1 : u 1 = .int .i64 (i : Int) := (HF.out 1 (by decide)).2
            have f14 : u 14 = .pointer (some ⟨g, 5, none⟩) := (HF.out 14 (by decide)).2
            go_wp2
            exact hJ _ _ _ (ph3_other (by decide) (by decide) (by decide) HV.out) (rfl) (by simp [setU, f1, f14] <;> omega)
          · intro bb u w2 hv hbi hC hF J K hJ hK
            have HV := Lib.hid hv
            have HF := Lib.hid hF
            have HC := Lib.hid hC
            have HBI := Lib.hid hbi
            clear hv hF hC hbi
            have f15 : u 15 = .pointer (some ⟨g, 5 + i, none⟩) := (HF.out 15 (by decide)).2
            have hwr := ph3_e2 (HF.out 12 (by decide)).1 HBI.out HV.out
            obtain ⟨hgo, A7, m7, c7, f12⟩ := hwr
            have HGO : Hid (WrAt N L3 w3 (5 + i) ls (u 12) w2) := Lib.hid ⟨hgo, A7, m7, c7, f12⟩
            rw [f12] at HGO
            have hrr := (ph3_R (R := fun W => W.cell? ⟨g, 5 + i, none⟩ = some (.slice Aw wl cw) ∧ W.frozen? ⟨g, 5 + i, none⟩ = false ∧ W.cell? ⟨gx, 4, none⟩ = some (.slice A bl c)) HR0.out HR2.out HR2.out HBI.out HV.out)
            have cc := hrr.1
            have ff := hrr.2.1
            clear hgo hrr
            dsimp only
            rw [f12, f15]
            go_wp2
            exact hJ undef _ _ (ph3_at3 (HFIN.out w2 _ HGO.out)) (trivial) (by simp [setU, f12, f15] <;> omega)
        · intro bb u w2 hb hv hF
          have HV := Lib.hid hv
          have HBB := Lib.hid hb
          have f0 : u 0 = .pointer (some ⟨g, 0, none⟩) := hF 0 (by decide)
          have f1 : u 1 = .int .i64 (i : Int) := hF 1 (by decide)
          have f2 : u 2 = .pointer (some ⟨g, 0, none⟩) := hF 2 (by decide)
          have f3 : u 3 = .int .i64 (i : Int) := hF 3 (by decide)
          have f4 : u 4 = .pointer (some ⟨g, 0, none⟩) := hF 4 (by decide)
          have f5 : u 5 = .pointer (some ⟨g, 5, none⟩) := hF 5 (by decide)
          have f6 : u 6 = .pointer (some ⟨g, 5 + i, none⟩) := hF 6 (by decide)
          have f7 : u 7 = .slice Aw wl cw := hF 7 (by decide)
          have f8 : u 8 = .pointer (some ⟨gx, 4, none⟩) := hF 8 (by decide)
          have f9 : u 9 = .slice A bl c := hF 9 (by decide)
          have f10 : u 10 = .int .i64 (n : Int) := hF 10 (by decide)
          have f11 : u 11 = .slice A n c := hF 11 (by decide)
          have f13 : u 13 = .pointer (some ⟨g, 0, none⟩) := hF 13 (by decide)
          have f14 : u 14 = .pointer (some ⟨g, 5, none⟩) := hF 14 (by decide)
          have f15 : u 15 = .pointer (some ⟨g, 5 + i, none⟩) := hF 15 (by decide)
          clear hv hb hF
          have HFL := Lib.hid (ph3_e3 (HBB.out 16 (by decide)) HV.out)
          clear HV HBB
          try dsimp only
          go_wp2_with fail
          go_meet
          case rel => exact Lib.hid (by
           obtain ⟨V4, hg, hk⟩ := HFL.out
           rw [HX.out, HP4.out]
           exact ⟨V4, (HG3.out.trans (HL3.out ▸ hg)).pop, hk⟩)
      · have i6 : ((o : Int) == 6) = false := beq_eq_false_iff_ne.2 (by omega)
        by_cases h7 : o = 7
        · have HX : Hid (D = (P.setC i (s.read k.n).2).setR i (P.rd i ++ (s.read k.n).1)) := Lib.hid (by rw [HD.out, if_neg h45, if_neg h6, if_pos h7])
          subst h7
          clear HD
          go_upto_region 18 with fail
          obtain ⟨wa, rfl⟩ : ∃ wa, wa = w1 := ⟨_, rfl⟩
          obtain ⟨s', hs'⟩ : ∃ s', (s.read k.n).2 = s' := ⟨_, rfl⟩
          obtain ⟨bs, hbs⟩ : ∃ bs, (s.read k.n).1 = bs := ⟨_, rfl⟩
          have HW6 : Hid (TS.Went s s' ∧ (s = TS.zero → s' = TS.zero)) := Lib.hid (by rw [← hs']; exact ⟨TS.went_read HFI.out.ok HFI.out.qu k.n, fun e => by rw [e]; rfl⟩)
          have HBS : Hid (bs.length ≤ 1024) := Lib.hid (by
            rw [← hbs]
            unfold TS.read
            split
            · exact Nat.zero_le _
            · show (s.inn.take _).length ≤ 1024
              rw [List.length_take]
              have := HFI.out.ok.inn
              omega)
          obtain ⟨L3, hL3⟩ : ∃ L3, pItems g P V ++ [Item.bk gx 46 (k.cs A c)] = L3 := ⟨_, rfl⟩
          have ha3 := HG1.out.all
          have hsd := HSD1.out
          rw [hL3] at ha3 hsd
          have hb0 : L3[0]? = some (Item.bk g 53 (pCells P V)) := by rw [← hL3]; exact get_snoc_lt p_bk
          obtain ⟨vw, hvw⟩ : ∃ vw, V.r i = vw := ⟨_, rfl⟩
          have hit : L3[7 + i]? = some (Item.bytes vw (P.rd i)) := by rw [← hL3, ← hvw]; exact get_snoc_lt (p_rd hi2)
          have hx9 : L3[9]? = some (Item.bk gx 46 (k.cs A c)) := by rw [← hL3]; rfl
          obtain ⟨Aw, cw, hvf, _⟩ := (ha3.get _ hit).1.form
          obtain ⟨wl, hwl⟩ : ∃ wl, (P.rd i).length = wl := ⟨_, rfl⟩
          rw [hwl] at hvf
          obtain ⟨ls, hls⟩ : ∃ ls, P.rd i ++ bs = ls := ⟨_, rfl⟩
          obtain ⟨P4, hP4⟩ : ∃ P4, (P.setC i s').setR i ls = P4 := ⟨_, rfl⟩
          have hcells : ∀ W : World, BK W g 53 (pCells P V) → BK W gx 46 (k.cs A c) → W.cell? ⟨g, 7 + i, none⟩ = some vw ∧ W.frozen? ⟨g, 7 + i, none⟩ = false ∧ W.cell? ⟨gx, 3, none⟩ = some (.int .i64 k.n) := fun W h1 h2 => ⟨by rw [← hvw]; exact h1.cell (c_rd hi2), h1.frozen _, h2.cell rfl⟩
          have HR0 : Hid (∀ W : World, Below wa.heap.size wa W → W.cell? ⟨g, 7 + i, none⟩ = some vw ∧ W.frozen? ⟨g, 7 + i, none⟩ = false ∧ W.cell? ⟨gx, 3, none⟩ = some (.int .i64 k.n)) := Lib.hid fun W hW => hcells W ((ha3.get 0 hb0).1.ext hW) ((ha3.get 9 hx9).1.ext hW)
          have hgl1 : ∀ (I : Item), (L3.set (1 + i) I)[0]? = some (Item.bk g 53 (pCells P V)) := fun I => by rw [getElem?_set_ne _ (by omega)]; exact hb0
          have hgl2 : ∀ (I : Item), (L3.set (1 + i) I)[9]? = some (Item.bk gx 46 (k.cs A c)) := fun I => by rw [getElem?_set_ne _ (by omega)]; exact hx9
          have hgl3 : ∀ (I : Item), (L3.set (1 + i) I)[7 + i]? = some (Item.bytes vw (P.rd i)) := fun I => by rw [getElem?_set_ne _ (by omega)]; exact hit
          have HR1 : Hid (∀ (v : Value) (W : World), RdAt N L3 wa (1 + i) kb s' bs v W → W.cell? ⟨g, 7 + i, none⟩ = some vw ∧ W.frozen? ⟨g, 7 + i, none⟩ = false ∧ W.cell? ⟨gx, 3, none⟩ = some (.int .i64 k.n)) := Lib.hid fun v W hW => by
            obtain ⟨vp4, hgo, _⟩ := hW
            exact hcells W (hgo.all.get 0 (get_snoc_lt (hgl1 _))).1 (hgo.all.get 9 (get_snoc_lt (hgl2 _))).1
          have HR2 : Hid (∀ (v : Value) (W : World), RdAt2 N L3 wa (1 + i) kb s' bs (7 + i) ls v W → W.cell? ⟨g, 7 + i, none⟩ = some vw ∧ W.frozen? ⟨g, 7 + i, none⟩ = false ∧ W.cell? ⟨gx, 3, none⟩ = some (.int .i64 k.n)) := Lib.hid fun v W hW => by
            obtain ⟨vp4, v1, hgo, _⟩ := hW
            have h1 : ((L3.set (1 + i) (Item.side kb s' vp4) ++ [Item.bytes v1 bs]).set (7 + i) (Item.bytes v ls))[0]? = some (Item.bk g 53 (pCells P V)) := by rw [getElem?_set_ne _ (by omega)]; exact get_snoc_lt (hgl1 _)
            have h2 : ((L3.set (1 + i) (Item.side kb s' vp4) ++ [Item.bytes v1 bs]).set (7 + i) (Item.bytes v ls))[9]? = some (Item.bk gx 46 (k.cs A c)) := by rw [getElem?_set_ne _ (by omega)]; exact get_snoc_lt (hgl2 _)
            exact hcells W (hgo.all.get 0 h1).1 (hgo.all.get 9 h2).1
          have HREAD : Hid (∀ W : World, Below wa.heap.size wa W → Calls Try.prog 33 #[pv, .int .i64 k.n] W fun e W' => ∃ v, e = .returned v ∧ RdAt N L3 wa (1 + i) kb s' bs v W') := Lib.hid fun W hW => by
            rw [← HPV.out]
            refine (side_read (ha3.ext hW) hsd HFI.out.ok (by have := HPE.out; omega) (by have := HFI.out.got; omega) k.n).mono ?_
            intro e W' hr
            obtain ⟨v, vp', rfl, hgo, hf⟩ := read_goes hsd hr
            rw [hs', hbs] at hgo
            exact ⟨v, rfl, vp', ((Goes.refl ha3).ext hW).trans hgo, hf⟩
          have HAP : Hid (∀ (W : World) (v1 vp4 v : Value) (W' : World), Goes N L3 wa (L3.set (1 + i) (Item.side kb s' vp4) ++ [Item.bytes v1 bs]) W → OwnB 0 5 W' v (P.rd i ++ bs) → W.grownBy W' vw.ownBlock → (v.ownBlock = vw.ownBlock ∨ v.ownBlock = some W.heap.size) → RdAt2 N L3 wa (1 + i) kb s' bs (7 + i) ls v W') := Lib.hid fun W v1 vp4 v W' hgo ho hg hv => by
            have h2 := hgo.trans (bytes_grown hgo.all (get_snoc_lt (hgl3 _)) ho hg hv)
            rw [hls] at h2
            obtain ⟨A7, c7, e7, _⟩ := ho.form
            exact ⟨vp4, v1, h2, A7, _, c7, e7⟩
          have HFIN : Hid (∀ (W : World) (v : Value), RdAt2 N L3 wa (1 + i) kb s' bs (7 + i) ls v W → DoneAt N L3 wa g P4 (Item.bk gx 46 (k.cs A c)) (W.setCell ⟨g, 7 + i, none⟩ v)) := Lib.hid fun W v hW => by
            obtain ⟨vp4, v1, hgo, _⟩ := hW
            have hb1 : ((L3.set (1 + i) (Item.side kb s' vp4) ++ [Item.bytes v1 bs]).set (7 + i) (Item.bytes v ls))[0]? = some (Item.bk g 53 (pCells P V)) := by rw [getElem?_set_ne _ (by omega)]; exact get_snoc_lt (hgl1 _)
            have h1 := hgo.trans (Goes.bk hgo.all hb1 (7 + i) v)
            have e1 : L3.set (1 + i) (Item.side kb s' vp4) = pItems g (P.setC i s') { V with v := fset V.v i vp4 } ++ [Item.bk gx 46 (k.cs A c)] := by
              rw [← hL3, set_snoc (p_side hi2), ← HKB.out, p_set_side hi2]
              rfl
            have hb2 : ((pItems g (P.setC i s') { V with v := fset V.v i vp4 }).set (7 + i) (Item.bytes v ls))[0]? = some (Item.bk g 53 (pCells (P.setC i s') { V with v := fset V.v i vp4 })) := by rw [getElem?_set_ne _ (by omega)]; rfl
            have e2 : pCells P V = pCells (P.setC i s') { V with v := fset V.v i vp4 } := rfl
            rw [e1, set_snoc (get_snoc_lt (p_rd hi2)), set_snoc (p_rd hi2), e2, set_snoc (get_snoc_lt hb2), set_snoc hb2, p_set_rd hi2] at h1
            refine ⟨{ ({ V with v := fset V.v i vp4 } : PV) with r := fset ({ V with v := fset V.v i vp4 } : PV).r i v }, by rw [← hP4]; exact h1.pop, ?_⟩
            rw [← hP4]
            exact HKS.out s' _ rfl HW6.out.1 HW6.out.2
          have HWL : Hid ((P.rd i).length ≤ 1024 * m) := Lib.hid (HGD.out.fine.rd i hi2)
          have HL3 := Lib.hid hL3
          have HA3 := Lib.hid ha3
          have HIT := Lib.hid hit
          have HP4 : Hid ((P.setC i (s.read k.n).2).setR i (P.rd i ++ (s.read k.n).1) = P4) := Lib.hid (by rw [hs', hbs, hls]; exact hP4)
          clear hL3 ha3 hb0 hvw hit hx9 hls hP4 hcells hwl hgl1 hgl2 hgl3 hs' hbs hsd
          subst hvf
          refine wp_region_inu [[], [], [], [], [2], [2, 4], [2, 3, 4, 5], [2, 3, 4, 5, 6], [], [], [9], [8, 9, 10], [2, 3, 4, 5, 6, 7, 8, 9, 10, 11], [0], [0, 13], [0, 1, 2, 3, 4, 5, 6, 7, 8, 9, 10, 11, 12, 13, 14], [0, 1, 2, 3, 4, 5, 6, 7, 8, 9, 10, 11, 12, 13, 14, 15]]
            [fun u => u = .pointer (some ⟨g, 0, none⟩),
             fun u => u = .int .i64 (i : Int),
             fun u => u = .pointer (some ⟨g, 0, none⟩),
             fun u => u = .int .i64 (i : Int),
             fun u => u = .pointer (some ⟨g, 0, none⟩),
             fun u => u = .pointer (some ⟨g, 7, none⟩),
             fun u => u = .pointer (some ⟨g, 7 + i, none⟩),
             fun u => u = .slice Aw wl cw,
             fun u => u = pv,
             fun u => u = .pointer (some ⟨gx, 3, none⟩),
             fun u => u = .int .i64 k.n,
             fun _ => True,
             fun _ => True,
             fun u => u = .pointer (some ⟨g, 0, none⟩),
             fun u => u = .pointer (some ⟨g, 7, none⟩),
             fun u => u = .pointer (some ⟨g, 7 + i, none⟩),
             fun _ => True]
            (fun u => ⟨#[Value.pointer (some { block := g, off := 0 }), Value.agg #[Value.int IntKind.i64 k.op, Value.int IntKind.i64 k.side, Value.int IntKind.i64 k.at_, Value.int IntKind.i64 k.n, Value.slice A k.b.length c, Value.bool k.stay], undef, Value.pointer (some { block := gx, off := 0 }), Value.int IntKind.i64 (i : Int), pv, Value.int IntKind.i64 ((7 : Nat) : Int), undef, undef, undef, Value.pointer (some { block := gx, off := 1 }), Value.int IntKind.i64 k.side, Value.int IntKind.i64 (i : Int), Value.pointer (some { block := g, off := 0 }), Value.int IntKind.i64 (i : Int), Value.pointer (some { block := g, off := 0 }), Value.pointer (some { block := g, off := 0 }), Value.pointer (some { block := g, off := i }), pv, Value.pointer (some { block := gx, off := 0 }), Value.int IntKind.i64 k.op, Value.int IntKind.u64 (U : Int), Value.int IntKind.u64 ((7 : Nat) : Int), Value.int IntKind.i64 ((7 : Nat) : Int), Value.int IntKind.i64 ((7 : Nat) : Int), undef, undef, undef, undef, undef, undef, undef, undef, undef, undef, undef, undef, undef, undef, undef, undef, undef, undef, undef, undef, undef, undef, undef, undef, undef, undef, undef, undef, undef, undef, undef, undef, undef, undef, undef, undef, undef, undef, undef, undef, Value.bool false, Value.bool false, Value.bool false, undef, undef, Value.bool false, Value.bool false, undef, undef, undef, undef, undef, undef, undef, undef, undef, undef, undef, undef, undef, undef, undef, undef, undef, undef, undef, undef, Value.bool true, Value.bool true, u 0, u 1, u 2, u 3, u 4, u 5, u 6, u 7, u 8, u 9, u 10, u 11, u 12, u 13, u 14, u 15, undef, undef, undef, undef, undef, undef, undef, undef, undef, undef, undef, undef, undef, undef, undef, undef, undef, undef, undef, undef, undef], []⟩)
            (Ph3 11 12 16 (fun W => Below wa.heap.size wa W) (RdAt N L3 wa (1 + i) kb s' bs) (RdAt2 N L3 wa (1 + i) kb s' bs (7 + i) ls) (DoneAt N L3 wa g P4 (Item.bk gx 46 (k.cs A c)))) (fun j => [undef, undef, undef, undef, undef, undef, undef, undef, undef, undef, undef, undef, undef, undef, undef, undef, undef].getD j undef) (by kernel_rfl) (by kernel_rfl) (by kernel_rfl) rfl (ph3_0 (Below.refl _ _).drew) ?_ ?_
          · refine ⟨?_, ?_, ?_, ?_, ?_, ?_, ?_, ?_, ?_, ?_, ?_, ?_, ?_, ?_, ?_, ?_, ?_, trivial⟩
            · intro bb u w2 hv hbi hC hF J K hJ hK
              have HV := Lib.hid hv
              have HF := Lib.hid hF
              have HC := Lib.hid hC
              have HBI := Lib.hid hbi
              clear hv hF hC hbi
              go_wp2
              exact hJ _ _ _ (ph3_other (by decide) (by decide) (by decide) HV.out) (rfl) (by simp [setU] <;> omega)
            · intro bb u w2 hv hbi hC hF J K hJ hK
              have HV := Lib.hid hv
              have HF := Lib.hid hF
              have HC := Lib.hid hC
              have HBI := Lib.hid hbi
              clear hv hF hC hbi
              go_wp2
              exact hJ _ _ _ (ph3_other (by decide) (by decide) (by decide) HV.out) (rfl) (by simp [setU] <;> omega)
            · intro bb u w2 hv hbi hC hF J K hJ hK
              have HV := Lib.hid hv
              have HF := Lib.hid hF
              have HC := Lib.hid hC
              have HBI := Lib.hid hbi
              clear hv hF hC hbi
              go_wp2
              exact hJ _ _ _ (ph3_other (by decide) (by decide) (by decide) HV.out) (rfl) (by simp [setU] <;> omega)
            · intro bb u w2 hv hbi hC hF J K hJ hK
              have HV := Lib.hid hv
              have HF := Lib.hid hF
              have HC := Lib.hid hC
              have HBI := Lib.hid hbi
              clear hv hF hC hbi
              go_wp2
              exact hJ _ _ _ (ph3_other (by decide) (by decide) (by decide) HV.out) (rfl) (by simp [setU] <;> omega)
            · intro bb u w2 hv hbi hC hF J K hJ hK
              have HV := Lib.hid hv
              have HF := Lib.hid hF
              have HC := Lib.hid hC
              have HBI := Lib.hid hbi
              clear hv hF hC hbi
              have f2 : u 2 = .pointer (some ⟨g, 0, none⟩) := (HF.out 2 (by decide)).2
              go_wp2
              exact hJ _ _ _ (ph3_other (by decide) (by decide) (by decide) HV.out) (rfl) (by simp [setU, f2] <;> omega)
            · intro bb u w2 hv hbi hC hF J K hJ hK
              have HV := Lib.hid hv
              have HF := Lib.hid hF
              have HC := Lib.hid hC
              have HBI := Lib.hid hbi
              clear hv hF hC hbi
              have f4 : u 4 = .pointer (some ⟨g, 0, none⟩) := (HF.out 4 (by decide)).2
              go_wp2
              exact hJ _ _ _ (ph3_other (by decide) (by decide) (by decide) HV.out) (rfl) (by simp [setU, f4] <;> omega)
            · intro bb u w2 hv hbi hC hF J K hJ hK
              have HV := Lib.hid hv
              have HF := Lib.hid hF
              have HC := Lib.hid hC
              have HBI := Lib.hid hbi
              clear hv hF hC hbi
              have f3 : u 3 = .int .i64 (i : Int) := (HF.out 3 (by decide)).2
              have f5 : u 5 = .pointer (some ⟨g, 7, none⟩) := (HF.out 5 (by decide)).2
              go_wp2
              exact hJ _ _ _ (ph3_other (by decide) (by decide) (by decide) HV.out) (rfl) (by simp [setU, f3, f5] <;> omega)
            · intro bb u w2 hv hbi hC hF J K hJ hK
              have HV := Lib.hid hv
              have HF := Lib.hid hF
              have HC := Lib.hid hC
              have HBI := Lib.hid hbi
              clear hv hF hC hbi
              have f6 : u 6 = .pointer (some ⟨g, 7 + i, none⟩) := (HF.out 6 (by decide)).2
              have cc := (ph3_R (R := fun W => W.cell? ⟨g, 7 + i, none⟩ = some (.slice Aw wl cw) ∧ W.frozen? ⟨g, 7 + i, none⟩ = false ∧ W.cell? ⟨gx, 3, none⟩ = some (.int .i64 k.n)) HR0.out HR1.out HR2.out (not_yet HC.out HBI.out (by decide)) HV.out).1
              go_wp2
              exact hJ _ _ _ (ph3_other (by decide) (by decide) (by decide) HV.out) (rfl) (by simp [setU, f6] <;> omega)
            · intro bb u w2 hv hbi hC hF J K hJ hK
              have HV := Lib.hid hv
              have HF := Lib.hid hF
              have HC := Lib.hid hC
              have HBI := Lib.hid hbi
              clear hv hF hC hbi
              go_wp2
              exact hJ _ _ _ (ph3_other (by decide) (by decide) (by decide) HV.out) (rfl) (by simp [setU] <;> omega)
            · intro bb u w2 hv hbi hC hF J K hJ hK
              have HV := Lib.hid hv
              have HF := Lib.hid hF
              have HC := Lib.hid hC
              have HBI := Lib.hid hbi
              clear hv hF hC hbi
              go_wp2
              exact hJ _ _ _ (ph3_other (by decide) (by decide) (by decide) HV.out) (rfl) (by simp [setU] <;> omega)
            · intro bb u w2 hv hbi hC hF J K hJ hK
              have HV := Lib.hid hv
              have HF := Lib.hid hF
              have HC := Lib.hid hC
              have HBI := Lib.hid hbi
              clear hv hF hC hbi
              have f9 : u 9 = .pointer (some ⟨gx, 3, none⟩) := (HF.out 9 (by decide)).2
              have cc := (ph3_R (R := fun W => W.cell? ⟨g, 7 + i, none⟩ = some (.slice Aw wl cw) ∧ W.frozen? ⟨g, 7 + i, none⟩ = false ∧ W.cell? ⟨gx, 3, none⟩ = some (.int .i64 k.n)) HR0.out HR1.out HR2.out (not_yet HC.out HBI.out (by decide)) HV.out).2.2
              go_wp2
              exact hJ _ _ _ (ph3_other (by decide) (by decide) (by decide) HV.out) (rfl) (by simp [setU, f9] <;> omega)
            · intro bb u w2 hv hbi hC hF J K hJ hK
              have HV := Lib.hid hv
              have HF := Lib.hid hF
              have HC := Lib.hid hC
              have HBI := Lib.hid hbi
              clear hv hF hC hbi
              have f8 : u 8 = pv := (HF.out 8 (by decide)).2
              have f10 : u 10 = .int .i64 k.n := (HF.out 10 (by decide)).2
              have h0 := ph3_e0 HBI.out (not_yet HC.out HBI.out (by decide)) (not_yet HC.out HBI.out (by decide)) HV.out
              have HH0 := Lib.hid h0
              have HRD := Lib.hid (HREAD.out w2 h0)
              clear h0
              dsimp only
              rw [f8, f10]
              go_wp2_with (go_at_call 33; refine HRD.out.mono ?_; rintro e w4 ⟨v4, rfl, hr⟩)
              have HR4 := Lib.hid hr; clear hr
              exact hJ _ _ _ (ph3_at1 (by decide) (by decide) (not_yet HC.out HBI.out (by decide)) (not_yet HC.out HBI.out (by decide)) HR4.out) (trivial) (by simp [setU, f8, f10] <;> omega)
            · intro bb u w2 hv hbi hC hF J K hJ hK
              have HV := Lib.hid hv
              have HF := Lib.hid hF
              have HC := Lib.hid hC
              have HBI := Lib.hid hbi
              clear hv hF hC hbi
              have f7 : u 7 = .slice Aw wl cw := (HF.out 7 (by decide)).2
              have hra := ph3_e1 (HF.out 11 (by decide)).1 HBI.out (not_yet HC.out HBI.out (by decide)) HV.out
              obtain ⟨vp4, hgo, A8, n8, c8, f11⟩ := hra
              rw [f11] at hgo
              have HGO := Lib.hid hgo
              have hb8 := (hgo.all.get _ get_last).1
              obtain ⟨A8x, c8x, e8, hrb8, _, _⟩ := hb8.form
              injection e8 with e81 e82 e83
              subst e81 e82 e83
              have HRB8 := Lib.hid hrb8
              have hix : (L3.set (1 + i) (Item.side kb s' vp4) ++ [Item.bytes (.slice A8 bs.length c8) bs])[7 + i]? = some (Item.bytes (.slice Aw wl cw) (P.rd i)) := get_snoc_lt (by rw [getElem?_set_ne _ (by omega)]; exact HIT.out)
              have how := (hgo.all.get _ hix).1
              have HOW : Hid (OwnB 0 5 w2 (.slice Aw wl cw) (P.rd i)) := Lib.hid how
              clear hgo hb8 hrb8 how hix
              dsimp only
              rw [f7, f11]
              refine wpList_appB rfl _ _ 30 rfl 0 5 Try.underlying30 infoB (.slice Aw wl cw) (P.rd i) rfl HOW.out _ bs.length _ bs rfl rfl HRB8.out (by have := HWL.out; have := HBS.out; omega) (Nat.zero_le _) ?_
              intro v5 w5 ho5 hg5 hv5
              have HW5 : Hid (RdAt2 N L3 wa (1 + i) kb s' bs (7 + i) ls v5 w5) := Lib.hid (HAP.out w2 _ vp4 v5 w5 HGO.out ho5 hg5 hv5)
              clear ho5 hg5 hv5
              go_wp2
              exact hJ _ _ _ (ph3_at2 (by decide) (not_yet HC.out HBI.out (by decide)) HW5.out) (trivial) (by simp [setU, f11, f7] <;> omega)
            · intro bb u w2 hv hbi hC hF J K hJ hK
              have HV := Lib.hid hv
              have HF := Lib.hid hF
              have HC := Lib.hid hC
              have HBI := Lib.hid hbi
              clear hv hF hC hbi
              have f0 : u 0 = .pointer (some ⟨g, 0, none⟩) := (HF.out 0 (by decide)).2
              go_wp2
              exact hJ _ _ _ (ph3_other (by decide) (by decide) (by decide) HV.out) (rfl) (by simp [setU, f0] <;> omega)
            · intro bb u w2 hv hbi hC hF J K hJ hK
              have HV := Lib.hid hv
              have HF := Lib.hid hF
              have HC := Lib.hid hC
              have HBI := Lib.hid hbi
              clear hv hF hC hbi
              have f13 : u 13 = .pointer (some ⟨g, 0, none⟩) := (HF.out 13 (by decide)).2
              go_wp2
              exact hJ _ _ _ (ph3_other (by decide) (by decide) (by decide) HV.out) (rfl) (by simp [setU, f13] <;> omega)
            · intro bb u w2 hv hbi hC hF J K hJ hK
              have HV := Lib.hid hv
              have HF := Lib.hid hF
              have HC := Lib.hid hC
              have HBI := Lib.hid hbi
              clear hv hF hC hbi
              have f1 : u 1 = .int .i64 (i : Int) := (HF.out 1 (by decide)).2
              have f14 : u 14 = .pointer (some ⟨g, 7, none⟩) := (HF.out 14 (by decide)).2
              go_wp2
              exact hJ _ _ _ (ph3_other (by decide) (by decide) (by decide) HV.out) (rfl) (by simp [setU, f1, f14] <;> omega)
            · intro bb u w2 hv hbi hC hF J K hJ hK
              have HV := Lib.hid hv
              have HF := Lib.hid hF
              have HC := Lib.hid hC
              have HBI := Lib.hid hbi
              clear hv hF hC hbi
              have f15 : u 15 = .pointer (some ⟨g, 7 + i, none⟩) := (HF.out 15 (by decide)).2
              have hwr := ph3_e2 (HF.out 12 (by decide)).1 HBI.out HV.out
              obtain ⟨vp4, v1, hgo, A7, m7, c7, f12⟩ := hwr
              have HGO : Hid (RdAt2 N L3 wa (1 + i) kb s' bs (7 + i) ls (u 12) w2) := Lib.hid ⟨vp4, v1, hgo, A7, m7, c7, f12⟩
              rw [f12] at HGO
              have hrr := (ph3_R (R := fun W => W.cell? ⟨g, 7 + i, none⟩ = some (.slice Aw wl cw) ∧ W.frozen? ⟨g, 7 + i, none⟩ = false ∧ W.cell? ⟨gx, 3, none⟩ = some (.int .i64 k.n)) HR0.out HR1.out HR2.out HBI.out HV.out)
              have cc := hrr.1
              have ff := hrr.2.1
              clear hgo hrr
              dsimp only
              rw [f12, f15]
              go_wp2
              exact hJ undef _ _ (ph3_at3 (HFIN.out w2 _ HGO.out)) (trivial) (by simp [setU, f12, f15] <;> omega)
          · intro bb u w2 hb hv hF
            have HV := Lib.hid hv
            have HBB := Lib.hid hb
            have f0 : u 0 = .pointer (some ⟨g, 0, none⟩) := hF 0 (by decide)
            have f1 : u 1 = .int .i64 (i : Int) := hF 1 (by decide)
            have f2 : u 2 = .pointer (some ⟨g, 0, none⟩) := hF 2 (by decide)
            have f3 : u 3 = .int .i64 (i : Int) := hF 3 (by decide)
            have f4 : u 4 = .pointer (some ⟨g, 0, none⟩) := hF 4 (by decide)
            have f5 : u 5 = .pointer (some ⟨g, 7, none⟩) := hF 5 (by decide)
            have f6 : u 6 = .pointer (some ⟨g, 7 + i, none⟩) := hF 6 (by decide)
            have f7 : u 7 = .slice Aw wl cw := hF 7 (by decide)
            have f8 : u 8 = pv := hF 8 (by decide)
            have f9 : u 9 = .pointer (some ⟨gx, 3, none⟩) := hF 9 (by decide)
            have f10 : u 10 = .int .i64 k.n := hF 10 (by decide)
            have f13 : u 13 = .pointer (some ⟨g, 0, none⟩) := hF 13 (by decide)
            have f14 : u 14 = .pointer (some ⟨g, 7, none⟩) := hF 14 (by decide)
            have f15 : u 15 = .pointer (some ⟨g, 7 + i, none⟩) := hF 15 (by decide)
            clear hv hb hF
            have HFL := Lib.hid (ph3_e3 (HBB.out 16 (by decide)) HV.out)
            clear HV HBB
            try dsimp only
            go_wp2_with fail
            go_meet
            case rel => exact Lib.hid (by
             obtain ⟨V4, hg, hk⟩ := HFL.out
             rw [HX.out, HP4.out]
             exact ⟨V4, (HG1.out.trans (HL3.out ▸ hg)).pop, hk⟩)
        · have i7 : ((o : Int) == 7) = false := beq_eq_false_iff_ne.2 (by omega)
          by_cases h9 : o = 9
          · subst h9
            by_cases hn : k.n = 0
            · have HX : Hid (D = P.setC i s.close) := Lib.hid (by rw [HD.out, if_neg (by decide), if_neg (by decide), if_neg (by decide), if_pos rfl, if_pos hn])
              rw [hn] at x3
              clear HD hn
              go_wp2_with fail
              refine HCL.out.mono ?_
              intro e w9 hd
              obtain ⟨rfl, V9, hg9, hk9⟩ := HSC.out _ _ _ _ hd (TS.went_close HFI.out.ok HFI.out.qu) (fun e => by rw [e]; rfl)
              have H9 := Lib.hid (show _ ∧ _ from ⟨hg9, hk9⟩)
              clear hd hg9 hk9 HCL
              go_wp2_with fail
              go_meet
              case rel => exact Lib.hid (by rw [HX.out]; exact ⟨V9, H9.out.1, H9.out.2⟩)
            · have HX : Hid (D = P) := Lib.hid (by rw [HD.out, if_neg (by decide), if_neg (by decide), if_neg (by decide), if_pos rfl, if_neg hn])
              have hni : (k.n == 0) = false := beq_eq_false_iff_ne.2 hn
              clear HD
              go_wp2_with fail
              go_meet
              case rel => exact Lib.hid (by rw [HX.out]; exact ⟨V, HG1.out.pop, HKO.out⟩)
          · have i9 : ((o : Int) == 9) = false := beq_eq_false_iff_ne.2 (by omega)
            by_cases h10 : o = 10
            · subst h10
              by_cases hn : k.n = 0
              · have HX : Hid (D = P.setC i s.abort) := Lib.hid (by rw [HD.out, if_neg (by decide), if_neg (by decide), if_neg (by decide), if_neg (by decide), if_pos rfl, if_pos hn])
                rw [hn] at x3
                clear HD hn
                go_wp2_with fail
                refine HAB.out.mono ?_
                intro e w9 hd
                obtain ⟨rfl, V9, hg9, hk9⟩ := HSC.out _ _ _ _ hd (TS.went_abort0 HFI.out.ok HFI.out.qu) (fun e => by rw [e]; rfl)
                have H9 := Lib.hid (show _ ∧ _ from ⟨hg9, hk9⟩)
                clear hd hg9 hk9 HAB
                go_wp2_with fail
                go_meet
                case rel => exact Lib.hid (by rw [HX.out]; exact ⟨V9, H9.out.1, H9.out.2⟩)
              · have HX : Hid (D = P) := Lib.hid (by rw [HD.out, if_neg (by decide), if_neg (by decide), if_neg (by decide), if_neg (by decide), if_pos rfl, if_neg hn])
                have hni : (k.n == 0) = false := beq_eq_false_iff_ne.2 hn
                clear HD
                go_wp2_with fail
                go_meet
                case rel => exact Lib.hid (by rw [HX.out]; exact ⟨V, HG1.out.pop, HKO.out⟩)
            · have i10 : ((o : Int) == 10) = false := beq_eq_false_iff_ne.2 (by omega)
              have HD2 : Hid (D = if (P.bag i).length = 0 then P else if o = 8 then P.lose i (u64N k.at_ % (P.bag i).length) else P.comes i (u64N k.at_ % (P.bag i).length) k.stay) := Lib.hid (by rw [HD.out, if_neg h45, if_neg h6, if_neg h7, if_neg h9, if_neg h10])
              clear HD
              have x2 : w1.cell? ⟨gx, 2, none⟩ = some (.int .i64 k.at_) := (HG1.out.all.get 9 (show (pItems g P V ++ [Item.bk gx 46 (k.cs A c)])[9]? = some (Item.bk gx 46 (k.cs A c)) from rfl)).1.cell rfl
              have x5 : w1.cell? ⟨gx, 5, none⟩ = some (.bool k.stay) := (HG1.out.all.get 9 (show (pItems g P V ++ [Item.bk gx 46 (k.cs A c)])[9]? = some (Item.bk gx 46 (k.cs A c)) from rfl)).1.cell rfl
              have ha1 := HG1.out.all.pop
              have hbk := (ha1.get 0 p_bk).1
              obtain ⟨Ab, cap, hvb, hcap, hmax, hA⟩ := row_form' (ha1.get _ (p_row hi2))
              obtain ⟨n, hn⟩ : ∃ n, (P.bag i).length = n := ⟨_, rfl⟩
              have hn3 : n ≤ 300 := by rw [← hn]; exact HGD.out.fine.bag i hi2
              have c3 : w1.cell? ⟨g, 3 + i, none⟩ = some (.slice Ab n cap) := by rw [← hn, ← hvb]; exact hbk.cell (c_row hi2)
              have HAL := Lib.hid ha1
              have HBK := Lib.hid hbk
              have HNN := Lib.hid hn
              have HVB := Lib.hid hvb
              rw [hn] at HD2 hA
              clear ha1 hbk hvb hn
              by_cases hn0 : n = 0
              · have HX : Hid (D = P) := Lib.hid (by rw [HD2.out, if_pos hn0])
                subst hn0
                clear HD2 hA
                go_wp2_with fail
                go_meet
                case rel => exact Lib.hid (by rw [HX.out]; exact ⟨V, HG1.out.pop, HKO.out⟩)
              · obtain ⟨gb, rfl⟩ := hA (by omega)
                obtain ⟨T, hT⟩ : ∃ T, u64N k.at_ = T := ⟨_, rfl⟩
                have hT64 : T < 18446744073709551616 := by rw [← hT]; unfold u64N; omega
                have hwT : IntKind.u64.wrap k.at_ = (T : Int) := by rw [u64_wrap, hT]
                have hwn : IntKind.u64.wrap (n : Int) = (n : Int) := IntWalk.u64_in _ (by omega)
                obtain ⟨at_, hat⟩ : ∃ at_, T % n = at_ := ⟨_, rfl⟩
                have hatn : at_ < n := by rw [← hat]; exact Nat.mod_lt _ (by omega)
                have hmt : (T : Int).tmod (n : Int) = (at_ : Int) := by rw [← hat]; exact (Int.ofNat_tmod T n).symm
                have hwa : IntKind.i64.wrap (at_ : Int) = (at_ : Int) := IntWalk.i64_in _ (by omega)
                have hn1 : ¬ (n : Int) = 0 := by omega
                have hnp : (0 : Int) < (n : Int) := by omega
                have HD3 : Hid (D = if o = 8 then P.lose i at_ else P.comes i at_ k.stay) := Lib.hid (by rw [HD2.out, if_neg hn0, hT, hat])
                clear HD2 hT hat hA
                by_cases h8 : o = 8
                · have HX : Hid (D = P.lose i at_) := Lib.hid (by rw [HD3.out, if_pos h8])
                  subst h8
                  clear HD3
                  go_upto_region 9 with fail
                  obtain ⟨wa, rfl⟩ : ∃ wa, wa = w1 := ⟨_, rfl⟩
                  obtain ⟨L7, hL7⟩ : ∃ L7, pItems g P V = L7 := ⟨_, rfl⟩
                  have ha1 := HAL.out
                  rw [hL7] at ha1
                  have hb0 : L7[0]? = some (Item.bk g 53 (pCells P V)) := by rw [← hL7]; exact p_bk
                  have hr0 : L7[3 + i]? = some (Item.row (.slice (some ⟨gb, 0, none⟩) n cap) (P.bag i)) := by rw [← hL7, ← HNN.out, ← HVB.out]; exact p_row hi2
                  have hbk := (ha1.get 0 hb0).1
                  have HCG : Hid (∀ W : World, Below wa.heap.size wa W → W.cell? ⟨g, 3 + i, none⟩ = some (.slice (some ⟨gb, 0, none⟩) n cap) ∧ W.frozen? ⟨g, 3 + i, none⟩ = false) := Lib.hid fun W hW => by
                    have hk := hbk.ext hW
                    refine ⟨?_, hk.frozen _⟩
                    rw [← HNN.out, ← HVB.out]
                    exact hk.cell (c_row hi2)
                  have HCLN : Hid (∀ W : World, Below wa.heap.size wa W → Calls Try.prog 72 #[.slice (some ⟨gb, 0, none⟩) n cap] W fun e w' => ∃ v', e = .returned v' ∧ Below W.heap.size W w' ∧ RowAt N L7 wa.heap.size (P.bag i) v' w') := Lib.hid fun W hW => by
                    refine (clonePk_calls (ha1.ext hW) hr0 (by rw [HNN.out]; omega)).mono ?_
                    rintro e w' ⟨v', rfl, hb, ha, ho⟩
                    exact ⟨v', rfl, hb, ha, fun b hb => Nat.le_trans hW.size (ho b hb)⟩
                  have HFIN : Hid (∀ (W : World) (v : Value), Below wa.heap.size wa W → RowAt N L7 wa.heap.size ((P.bag i).eraseIdx at_) v W → ∃ V1, Goes N L7 wa (pItems g (P.lose i at_) V1) (W.setCell ⟨g, 3 + i, none⟩ v) ∧ V1.k = V.k) := Lib.hid fun W v hW hv => by
                    have h1 : Goes N L7 wa (L7 ++ [Item.row v ((P.bag i).eraseIdx at_)]) W := ⟨hv.1, Only.of_below hW, fun b hb => (any_snoc hb).imp id (hv.2 b)⟩
                    have h2 := h1.trans (Goes.bk h1.all (get_snoc_lt hb0) (3 + i) v)
                    rw [set_snoc hb0] at h2
                    have hr1 : (L7.set 0 (Item.bk g 53 ((pCells P V).set (3 + i) v)))[3 + i]? = some (Item.row (.slice (some ⟨gb, 0, none⟩) n cap) (P.bag i)) := by rw [getElem?_set_ne _ (by omega)]; exact hr0
                    have h3 := h2.repl hr1
                    rw [set_set_ne (by omega)] at h3
                    have e := p_set_row (g := g) (P := P) (V := V) hi2 v ((P.bag i).eraseIdx at_)
                    rw [← hL7, e] at h3
                    exact ⟨{ V with b := fset V.b i v }, hL7 ▸ h3, rfl⟩
                  have HL7 := Lib.hid hL7
                  have HATL : Hid (at_ < (P.bag i).length) := Lib.hid (by rw [HNN.out]; exact hatn)
                  have HBL3 : Hid ((P.bag i).length ≤ 300) := Lib.hid (by rw [HNN.out]; exact hn3)
                  obtain ⟨a1, haa⟩ : ∃ a1, at_ + 1 = a1 := ⟨_, rfl⟩
                  have hwa1 : IntKind.i64.wrap ((at_ : Int) + 1) = (a1 : Int) := by rw [IntWalk.i64_in _ (by omega)]; omega
                  have HA1 := Lib.hid haa
                  clear hL7 ha1 hb0 hr0 hbk haa
                  refine wp_region_new [[], [], [], [], [2], [2, 4], [2, 3, 4, 5], [2, 3, 4, 5, 6], [2, 3, 4, 5, 6, 7], [], [], [10], [2, 3, 4, 5, 6, 7, 8, 9, 10, 11], [0], [0, 13], [0, 1, 13, 14], [0, 1, 2, 3, 4, 5, 6, 7, 8, 9, 10, 11, 12, 13, 14, 15]]
                    [fun u _ => u = .pointer (some ⟨g, 0, none⟩),
                     fun u _ => u = .int .i64 (i : Int),
                     fun u _ => u = .pointer (some ⟨g, 0, none⟩),
                     fun u _ => u = .int .i64 (i : Int),
                     fun u _ => u = .pointer (some ⟨g, 0, none⟩),
                     fun u _ => u = .pointer (some ⟨g, 3, none⟩),
                     fun u _ => u = .pointer (some ⟨g, 3 + i, none⟩),
                     fun u _ => u = .slice (some ⟨gb, 0, none⟩) n cap,
                     fun u w => RowAt N L7 wa.heap.size (P.bag i) u w,
                     fun u _ => u = .int .i64 (at_ : Int),
                     fun u _ => u = .int .i64 (at_ : Int),
                     fun u _ => u = .int .i64 (a1 : Int),
                     fun u w => RowAt N L7 wa.heap.size ((P.bag i).eraseIdx at_) u w,
                     fun u _ => u = .pointer (some ⟨g, 0, none⟩),
                     fun u _ => u = .pointer (some ⟨g, 3, none⟩),
                     fun u _ => u = .pointer (some ⟨g, 3 + i, none⟩)]
                    (fun u => ⟨#[Value.pointer (some { block := g, off := 0 }), Value.agg #[Value.int IntKind.i64 k.op, Value.int IntKind.i64 k.side, Value.int IntKind.i64 k.at_, Value.int IntKind.i64 k.n, Value.slice A k.b.length c, Value.bool k.stay], undef, Value.pointer (some { block := gx, off := 0 }), Value.int IntKind.i64 (i : Int), pv, Value.int IntKind.i64 ((8 : Nat) : Int), undef, Value.int IntKind.i64 (n : Int), Value.int IntKind.i64 (at_ : Int), Value.pointer (some { block := gx, off := 1 }), Value.int IntKind.i64 k.side, Value.int IntKind.i64 (i : Int), Value.pointer (some { block := g, off := 0 }), Value.int IntKind.i64 (i : Int), Value.pointer (some { block := g, off := 0 }), Value.pointer (some { block := g, off := 0 }), Value.pointer (some { block := g, off := i }), pv, Value.pointer (some { block := gx, off := 0 }), Value.int IntKind.i64 k.op, Value.int IntKind.u64 (U : Int), Value.int IntKind.u64 ((8 : Nat) : Int), Value.int IntKind.i64 ((8 : Nat) : Int), Value.int IntKind.i64 ((8 : Nat) : Int), Value.pointer (some { block := g, off := 0 }), Value.int IntKind.i64 (i : Int), Value.pointer (some { block := g, off := 0 }), Value.pointer (some { block := g, off := 3 }), Value.pointer (some { block := g, off := 3 + i }), Value.slice (some { block := gb, off := 0 }) n cap, Value.int IntKind.i64 (n : Int), Value.int IntKind.i64 (n : Int), Value.bool (decide (0 < n)), Value.pointer (some { block := gx, off := 2 }), Value.int IntKind.i64 k.at_, Value.int IntKind.u64 (T : Int), Value.int IntKind.i64 (n : Int), Value.int IntKind.u64 (n : Int), Value.int IntKind.u64 (at_ : Int), Value.int IntKind.i64 (at_ : Int), Value.int IntKind.i64 ((8 : Nat) : Int), Value.bool true, u 0, u 1, u 2, u 3, u 4, u 5, u 6, u 7, u 8, u 9, u 10, u 11, u 12, u 13, u 14, u 15, undef, undef, undef, undef, undef, undef, Value.bool false, Value.bool false, Value.bool false, undef, undef, Value.bool false, Value.bool false, undef, undef, undef, undef, undef, undef, undef, undef, undef, undef, undef, undef, undef, undef, undef, undef, undef, undef, undef, undef, Value.bool false, Value.bool false, undef, undef, undef, undef, undef, undef, undef, undef, undef, undef, undef, undef, undef, undef, undef, undef, Value.bool false, Value.bool false, Value.bool false, undef, undef, undef, undef, undef, undef, undef, undef, undef, undef, undef, undef, undef, undef, undef, undef, undef, undef], []⟩)
                    (fun W => Below wa.heap.size wa W) (fun _ => True) [8] 12 16 (fun _ W => ∃ V1, Goes N L7 wa (pItems g (P.lose i at_) V1) W ∧ V1.k = V.k) (fun j => [undef, undef, undef, undef, undef, undef, undef, undef, undef, undef, undef, undef, undef, undef, undef, undef, undef].getD j undef) (by kernel_rfl) (by kernel_rfl) (by kernel_rfl) rfl (by kernel_rfl) (Nat.le_of_eq rfl) ⟨Mono.eq _, Mono.eq _, Mono.eq _, Mono.eq _, Mono.eq _, Mono.eq _, Mono.eq _, Mono.eq _, RowAt.mono _ _ _ _, Mono.eq _, Mono.eq _, Mono.eq _, RowAt.mono _ _ _ _, Mono.eq _, Mono.eq _, Mono.eq _, trivial⟩ ⟨.inr (.inr (.inr (MonoS.eq _ _))), ⟨.inr (.inr (.inr (MonoS.eq _ _))), ⟨.inr (.inr (.inr (MonoS.eq _ _))), ⟨.inr (.inr (.inr (MonoS.eq _ _))), ⟨.inr (.inr (.inr (MonoS.eq _ _))), ⟨.inr (.inr (.inr (MonoS.eq _ _))), ⟨.inr (.inr (.inr (MonoS.eq _ _))), ⟨.inr (.inr (.inr (MonoS.eq _ _))), ⟨.inr (.inr (.inl rfl)), ⟨.inr (.inr (.inr (MonoS.eq _ _))), ⟨.inr (.inr (.inr (MonoS.eq _ _))), ⟨.inr (.inr (.inr (MonoS.eq _ _))), ⟨.inl rfl, ⟨.inr (.inr (.inr (MonoS.eq _ _))), ⟨.inr (.inr (.inr (MonoS.eq _ _))), ⟨.inr (.inr (.inr (MonoS.eq _ _))), trivial⟩⟩⟩⟩⟩⟩⟩⟩⟩⟩⟩⟩⟩⟩⟩⟩
                    (fun _ _ _ h => h) (fun _ _ _ h => h) ((Below.refl _ _).drew) (trivial) ?_ ?_
                  · refine ⟨?_, ?_, ?_, ?_, ?_, ?_, ?_, ?_, ?_, ?_, ?_, ?_, ?_, ?_, ?_, ?_, ?_, trivial⟩
                    · intro u w2 hb hS hG hF hU J K hJ hK
                      have HB2 := Lib.hid hb
                      have HS2 := Lib.hid hS
                      have HG2 := Lib.hid hG
                      have HF := Lib.hid hF
                      clear hb hF hS hG hU
                      go_wp2
                      exact hJ _ _ _ (Nat.le_refl _) (fun _ => ⟨HB2.out, fun _ => Below.refl _ _, fun h => absurd h (by decide), rfl⟩) (fun h => absurd h (by decide)) (by simp [setU] <;> omega)
                    · intro u w2 hb hS hG hF hU J K hJ hK
                      have HB2 := Lib.hid hb
                      have HS2 := Lib.hid hS
                      have HG2 := Lib.hid hG
                      have HF := Lib.hid hF
                      clear hb hF hS hG hU
                      go_wp2
                      exact hJ _ _ _ (Nat.le_refl _) (fun _ => ⟨HB2.out, fun _ => Below.refl _ _, fun h => absurd h (by decide), rfl⟩) (fun h => absurd h (by decide)) (by simp [setU] <;> omega)
                    · intro u w2 hb hS hG hF hU J K hJ hK
                      have HB2 := Lib.hid hb
                      have HS2 := Lib.hid hS
                      have HG2 := Lib.hid hG
                      have HF := Lib.hid hF
                      clear hb hF hS hG hU
                      go_wp2
                      exact hJ _ _ _ (Nat.le_refl _) (fun _ => ⟨HB2.out, fun _ => Below.refl _ _, fun h => absurd h (by decide), rfl⟩) (fun h => absurd h (by decide)) (by simp [setU] <;> omega)
                    · intro u w2 hb hS hG hF hU J K hJ hK
                      have HB2 := Lib.hid hb
                      have HS2 := Lib.hid hS
                      have HG2 := Lib.hid hG
                      have HF := Lib.hid hF
                      clear hb hF hS hG hU
                      go_wp2
                      exact hJ _ _ _ (Nat.le_refl _) (fun _ => ⟨HB2.out, fun _ => Below.refl _ _, fun h => absurd h (by decide), rfl⟩) (fun h => absurd h (by decide)) (by simp [setU] <;> omega)
                    · intro u w2 hb hS hG hF hU J K hJ hK
                      have HB2 := Lib.hid hb
                      have HS2 := Lib.hid hS
                      have HG2 := Lib.hid hG
                      have HF := Lib.hid hF
                      clear hb hF hS hG hU
                      have f2 : u 2 = .pointer (some ⟨g, 0, none⟩) := HF.out 2 (by decide) (by decide)
                      go_wp2
                      exact hJ _ _ _ (Nat.le_refl _) (fun _ => ⟨HB2.out, fun _ => Below.refl _ _, fun h => absurd h (by decide), rfl⟩) (fun h => absurd h (by decide)) (by simp [setU, f2] <;> omega)
                    · intro u w2 hb hS hG hF hU J K hJ hK
                      have HB2 := Lib.hid hb
                      have HS2 := Lib.hid hS
                      have HG2 := Lib.hid hG
                      have HF := Lib.hid hF
                      clear hb hF hS hG hU
                      have f4 : u 4 = .pointer (some ⟨g, 0, none⟩) := HF.out 4 (by decide) (by decide)
                      go_wp2
                      exact hJ _ _ _ (Nat.le_refl _) (fun _ => ⟨HB2.out, fun _ => Below.refl _ _, fun h => absurd h (by decide), rfl⟩) (fun h => absurd h (by decide)) (by simp [setU, f4] <;> omega)
                    · intro u w2 hb hS hG hF hU J K hJ hK
                      have HB2 := Lib.hid hb
                      have HS2 := Lib.hid hS
                      have HG2 := Lib.hid hG
                      have HF := Lib.hid hF
                      clear hb hF hS hG hU
                      have f3 : u 3 = .int .i64 (i : Int) := HF.out 3 (by decide) (by decide)
                      have f5 : u 5 = .pointer (some ⟨g, 3, none⟩) := HF.out 5 (by decide) (by decide)
                      go_wp2
                      exact hJ _ _ _ (Nat.le_refl _) (fun _ => ⟨HB2.out, fun _ => Below.refl _ _, fun h => absurd h (by decide), rfl⟩) (fun h => absurd h (by decide)) (by simp [setU, f3, f5] <;> omega)
                    · intro u w2 hb hS hG hF hU J K hJ hK
                      have HB2 := Lib.hid hb
                      have HS2 := Lib.hid hS
                      have HG2 := Lib.hid hG
                      have HF := Lib.hid hF
                      clear hb hF hS hG hU
                      have f6 : u 6 = .pointer (some ⟨g, 3 + i, none⟩) := HF.out 6 (by decide) (by decide)
                      have cc := (HCG.out w2 HB2.out).1
                      go_wp2
                      exact hJ _ _ _ (Nat.le_refl _) (fun _ => ⟨HB2.out, fun _ => Below.refl _ _, fun h => absurd h (by decide), rfl⟩) (fun h => absurd h (by decide)) (by simp [setU, f6] <;> omega)
                    · intro u w2 hb hS hG hF hU J K hJ hK
                      have HB2 := Lib.hid hb
                      have HS2 := Lib.hid hS
                      have HG2 := Lib.hid hG
                      have HF := Lib.hid hF
                      clear hb hF hS hG hU
                      have f7 : u 7 = .slice (some ⟨gb, 0, none⟩) n cap := HF.out 7 (by decide) (by decide)
                      go_wp2_with (go_at_call 72; refine (HCLN.out w2 HB2.out).mono ?_; rintro e w3 ⟨v3, rfl, hb, ha⟩)
                      have HA3 := Lib.hid ha; have HB3 := Lib.hid hb; clear ha hb
                      exact hJ _ _ _ (HB3.out.size) (fun _ => ⟨HB2.out.trans (HB3.out.mono HS2.out), fun _ => HB3.out, fun h => absurd h (by decide), HA3.out⟩) (fun h => absurd h (by decide)) (by simp [setU, f7] <;> omega)
                    · intro u w2 hb hS hG hF hU J K hJ hK
                      have HB2 := Lib.hid hb
                      have HS2 := Lib.hid hS
                      have HG2 := Lib.hid hG
                      have HF := Lib.hid hF
                      clear hb hF hS hG hU
                      go_wp2
                      exact hJ _ _ _ (Nat.le_refl _) (fun _ => ⟨HB2.out, fun _ => Below.refl _ _, fun h => absurd h (by decide), rfl⟩) (fun h => absurd h (by decide)) (by simp [setU] <;> omega)
                    · intro u w2 hb hS hG hF hU J K hJ hK
                      have HB2 := Lib.hid hb
                      have HS2 := Lib.hid hS
                      have HG2 := Lib.hid hG
                      have HF := Lib.hid hF
                      clear hb hF hS hG hU
                      go_wp2
                      exact hJ _ _ _ (Nat.le_refl _) (fun _ => ⟨HB2.out, fun _ => Below.refl _ _, fun h => absurd h (by decide), rfl⟩) (fun h => absurd h (by decide)) (by simp [setU] <;> omega)
                    · intro u w2 hb hS hG hF hU J K hJ hK
                      have HB2 := Lib.hid hb
                      have HS2 := Lib.hid hS
                      have HG2 := Lib.hid hG
                      have HF := Lib.hid hF
                      clear hb hF hS hG hU
                      have f10 : u 10 = .int .i64 (at_ : Int) := HF.out 10 (by decide) (by decide)
                      go_wp2
                      exact hJ _ _ _ (Nat.le_refl _) (fun _ => ⟨HB2.out, fun _ => Below.refl _ _, fun h => absurd h (by decide), rfl⟩) (fun h => absurd h (by decide)) (by simp [setU, f10] <;> omega)
                    · intro u w2 hb hS hG hF hU J K hJ hK
                      have HB2 := Lib.hid hb
                      have HS2 := Lib.hid hS
                      have HG2 := Lib.hid hG
                      have HF := Lib.hid hF
                      clear hb hF hS hG hU
                      have f9 : u 9 = .int .i64 (at_ : Int) := HF.out 9 (by decide) (by decide)
                      have f11 : u 11 = .int .i64 (a1 : Int) := HF.out 11 (by decide) (by decide)
                      obtain ⟨hra, hrb⟩ := HF.out 8 (by decide) (by decide)
                      have HRA := Lib.hid hra
                      have HRB2 := Lib.hid hrb
                      have HDL := Lib.hid (deletePk_calls hra get_last at_ HATL.out (by have := HBL3.out; omega))
                      rw [HA1.out] at HDL
                      obtain ⟨v8, f8⟩ : ∃ v8, u 8 = v8 := ⟨_, rfl⟩
                      rw [f8] at HRA HRB2 HDL
                      have HV8 := Lib.hid f8
                      clear hra hrb
                      dsimp only
                      rw [f9, f11, f8]
                      clear f8
                      go_wp2_with (go_at_call 71; refine HDL.out.mono ?_; rintro e w3 ⟨v3, rfl, hv3, ho3, ha3⟩)
                      have HV3 := Lib.hid hv3; have HO3 := Lib.hid ho3; have HA3 := Lib.hid ha3; clear hv3 ho3 ha3
                      have HBB : Hid (Below wa.heap.size w2 w3) := Lib.hid (HO3.out.below (Below.refl _ _) HS2.out fun b hb => HRB2.out b hb)
                      have f8 := HV8.out
                      exact hJ _ _ _ (HO3.out.size) (fun _ => ⟨HB2.out.trans HBB.out, fun h => absurd rfl h, fun _ => HBB.out, ⟨by rw [← set_last]; exact HA3.out, fun b hb => HRB2.out b (HV3.out ▸ hb)⟩⟩) (fun h => absurd h (by decide)) (by simp [setU, f8, f9, f11] <;> omega)
                    · intro u w2 hb hS hG hF hU J K hJ hK
                      have HB2 := Lib.hid hb
                      have HS2 := Lib.hid hS
                      have HG2 := Lib.hid hG
                      have HF := Lib.hid hF
                      clear hb hF hS hG hU
                      have f0 : u 0 = .pointer (some ⟨g, 0, none⟩) := HF.out 0 (by decide) (by decide)
                      go_wp2
                      exact hJ _ _ _ (Nat.le_refl _) (fun _ => ⟨HB2.out, fun _ => Below.refl _ _, fun h => absurd h (by decide), rfl⟩) (fun h => absurd h (by decide)) (by simp [setU, f0] <;> omega)
                    · intro u w2 hb hS hG hF hU J K hJ hK
                      have HB2 := Lib.hid hb
                      have HS2 := Lib.hid hS
                      have HG2 := Lib.hid hG
                      have HF := Lib.hid hF
                      clear hb hF hS hG hU
                      have f13 : u 13 = .pointer (some ⟨g, 0, none⟩) := HF.out 13 (by decide) (by decide)
                      go_wp2
                      exact hJ _ _ _ (Nat.le_refl _) (fun _ => ⟨HB2.out, fun _ => Below.refl _ _, fun h => absurd h (by decide), rfl⟩) (fun h => absurd h (by decide)) (by simp [setU, f13] <;> omega)
                    · intro u w2 hb hS hG hF hU J K hJ hK
                      have HB2 := Lib.hid hb
                      have HS2 := Lib.hid hS
                      have HG2 := Lib.hid hG
                      have HF := Lib.hid hF
                      clear hb hF hS hG hU
                      have f1 : u 1 = .int .i64 (i : Int) := HF.out 1 (by decide) (by decide)
                      have f14 : u 14 = .pointer (some ⟨g, 3, none⟩) := HF.out 14 (by decide) (by decide)
                      go_wp2
                      exact hJ _ _ _ (Nat.le_refl _) (fun _ => ⟨HB2.out, fun _ => Below.refl _ _, fun h => absurd h (by decide), rfl⟩) (fun h => absurd h (by decide)) (by simp [setU, f1, f14] <;> omega)
                    · intro u w2 hb hS hG hF hU J K hJ hK
                      have HB2 := Lib.hid hb
                      have HS2 := Lib.hid hS
                      have HG2 := Lib.hid hG
                      have HF := Lib.hid hF
                      clear hb hF hS hG hU
                      have f15 : u 15 = .pointer (some ⟨g, 3 + i, none⟩) := HF.out 15 (by decide) (by decide)
                      have hp7 := HF.out 12 (by decide) (by decide)
                      obtain ⟨A7, c7, f12, _⟩ := row_form' (hp7.1.get _ get_last)
                      have HP7 : Hid (RowAt N L7 wa.heap.size ((P.bag i).eraseIdx at_) (u 12) w2) := Lib.hid hp7
                      rw [f12] at HP7
                      have cc := (HCG.out w2 HB2.out).1
                      have ff := (HCG.out w2 HB2.out).2
                      clear hp7
                      dsimp only
                      rw [f12, f15]
                      go_wp2
                      exact hJ undef _ _ ((by simp [World.setCell])) (fun h => absurd rfl h) (fun _ => HFIN.out w2 _ HB2.out HP7.out) (by simp [setU, f12, f15] <;> omega)
                  · intro u w2 hS hFL
                    have HS2 := Lib.hid hS
                    have HFL := Lib.hid hFL
                    clear hS hFL
                    have HFL2 := Lib.hid HFL.out
                    clear HFL
                    try dsimp only
                    go_wp2_with fail
                    go_meet
                    case rel => exact Lib.hid (by
                     obtain ⟨V1, hg, hk⟩ := HFL2.out
                     rw [HX.out]
                     exact ⟨V1, HG1.out.pop.trans (HL7.out ▸ hg), fun j hj => by rw [hk]; exact HKO.out j hj⟩)
                · have HX : Hid (D = P.comes i at_ k.stay) := Lib.hid (by rw [HD3.out, if_neg h8])
                  have i8 : ((o : Int) == 8) = false := beq_eq_false_iff_ne.2 (by omega)
                  have HCO := Lib.hid (comes_calls HAL.out HKO.out i at_ k.stay hi2 (by rw [HNN.out]; exact hatn) (by rw [HNN.out]; exact hn3) HGD.out.fine.iss (by rw [HSS.out]; exact HFI.out.ok) (by rw [HSS.out]; exact HFI.out.qu) (by rw [HSS.out]; have := HPE.out; omega) (by rw [HSS.out]; have := HFI.out.sent; omega))
                  clear HD3
                  go_wp2_with fail
                  refine HCO.out.mono ?_
                  rintro e w9 ⟨rfl, V9, hg9, hk9⟩
                  have H9 := Lib.hid (show _ ∧ _ from ⟨hg9, hk9⟩)
                  clear hg9 hk9 HCO
                  go_wp2_with fail
                  go_meet
                  case rel => exact Lib.hid (by rw [HX.out]; exact ⟨V9, HG1.out.pop.trans H9.out.1, H9.out.2⟩)
  case rest =>
    obtain ⟨V1, hg2, hk2⟩ := hcut.out
    obtain ⟨w2, rfl⟩ : ∃ w2, w2 = wc := ⟨_, rfl⟩
    have HMD : Hid (PMid D (m + 1) ∧ P.does k = D.out) := Lib.hid (by rw [← HDD.out]; exact ⟨(pmid_does0 HGD.out.fine HGD.out.zok k).1, rfl⟩)
    have HOC := Lib.hid (pout_calls hg2.all HMD.out.1.bag (fun j hj => by have := HMD.out.1.pack j hj; omega))
    have HG2 := Lib.hid hg2
    have HK2 := Lib.hid hk2
    clear hcut hg2 hk2 HD
    go_wp2_with fail
    refine HOC.out.mono ?_
    rintro e w9 ⟨rfl, V9, hg9, hk9⟩
    have H9 := Lib.hid (show _ ∧ _ from ⟨hg9, hk9⟩)
    clear hg9 hk9 HOC
    go_wp2_with fail
    go_end0
    refine ⟨rfl, V9, by rw [HMD.out.2]; exact HG2.out.trans H9.out.1, fun j hj => ?_⟩
    rw [H9.out.2, HMD.out.2]
    refine (HK2.out j hj).trans ?_
    exact (out_st D hj).symm
end
end Go.Proofs.Ytjhnnnklfhbebaa

