/- digest: the contract of stir. -/
import Derived.Test.YtchbnablefoemaaDoorDigC
import Derived.Test.YtchbnablefoemaaDoorBlk
namespace Go.Proofs.YtchbnablefoemaaDoor
open Go.RowKit
set_option linter.unusedVariables false

theorem WAt.range {w : World} {g o : Nat} {l : List Nat} (h : WAt w g o l) : w.rangeAt g o (l.map vw) := fun j v hv => by
  have hj : j < l.length := by have := (List.getElem?_eq_some_iff.1 hv).1; simpa using this
  rw [(h j hj).1]
  simp [List.getElem?_eq_getElem hj] at hv
  rw [← hv]
  simp [gw, List.getD_eq_getElem?_getD, List.getElem?_eq_getElem hj]
theorem one_vw (X : List Nat) : (X.map vw).toArray.all (·.oneCell') = true := by simp [vw, Value.oneCell']
theorem WA.setRow {w : World} {g : Nat} {t : TypeId} {old : Array Value} (h : w.heap[g]? = some (.cells old t)) (X : List Nat) : WA (w.setRow g (X.map vw).toArray) g t X := setRow_heap w g _ _ _ _ h
/-- A whole store of words into a block: the world behind it under a name of its own. -/
theorem wpList_store_wa {P : Program} {ops : Array Oper} {rest : List Oper} {o : Oper} {a : Act} {w : World} {Q : Exit → Act → World → Prop} (hgd : o.guard = none) (ty : TypeId) (x y : Operand) (ho : o.op = .store ty x y)
    (g : Nat) (X : List Nat) (hx : a.eval x = .pointer (some ⟨g, 0, none⟩)) (hy : a.eval y = .agg (X.map vw).toArray)
    (t : TypeId) (old : Array Value) (hg : w.heap[g]? = some (.cells old t (0, 0))) (hi : (P.info? ty).map (·.size) = some (X.map vw).toArray.size) (hold : old.size = (X.map vw).toArray.size)
    (h : ∀ w', WA w' g t X → w.grownBy w' (some g) → w'.heap.size = w.heap.size → wpList P ops Q rest (a.put o.dst undef) w') : wpList P ops Q (o :: rest) a w :=
  wpList_store_row hgd ty x y ho g _ hx hy t old hg hi hold (one_vw X) (h _ (setRow_heap w g _ _ _ _ hg)
    ⟨rfl, rfl, rfl, by rw [size_setRow]; exact Nat.le_refl _, fun k _ hk => setRow_other w g k _ (fun e => hk (by rw [e]))⟩ (size_setRow _ _ _))

/-- A whole load of words: the value under a name of its own. -/
theorem wpList_load_wa {P : Program} {ops : Array Oper} {rest : List Oper} {op : Oper} {a : Act} {w : World} {Q : Exit → Act → World → Prop} (hgd : op.guard = none) (ty : TypeId) (p : Operand) (ho : op.op = .load ty p)
    (b o : Nat) (hx : a.eval p = .pointer (some ⟨b, o, none⟩)) (X : List Nat) (d : TypeDesc) (hc : WAt w b o X) (hu : P.underlying ty = some d) (hd : d.isRow = true) (hi : (P.info? ty).map (·.size) = some (X.map vw).length)
    (h : ∀ v, Hid (v = .agg (X.map vw).toArray) → wpList P ops Q rest (a.put op.dst v) w) : wpList P ops Q (op :: rest) a w :=
  wpList_load_mid hgd ty p ho b o hx (X.map vw) d hc.range hu hd hi (h _ (Lib.hid rfl))

theorem info64 (X : List Nat) (h : X.length = 64) : (Tryd.prog.info? 54).map (·.size) = some (X.map vw).toArray.size := by
  rw [show (X.map vw).toArray.size = 64 by simp [h]]
  kernel_rfl
theorem info8 (x : List Nat) (h : x.length = 8) : (Tryd.prog.info? 27).map (·.size) = some (x.map vw).toArray.size := by
  rw [show (x.map vw).toArray.size = 8 by simp [h]]
  kernel_rfl
theorem info8l (x : List Nat) (h : x.length = 8) : (Tryd.prog.info? 27).map (·.size) = some (x.map vw).length := by
  rw [show (x.map vw).length = 8 by simp [h]]
  kernel_rfl

set_option maxRecDepth 8000 in
set_option maxHeartbeats 200000 in
theorem stir_calls (gh oh : Nat) (x : List Nat) (hx : x.length = 8) (hxw : Words x) (A : Option Addr) (c : Nat) (l : List UInt8) (w : World) (h : RB w A l) (hl : l.length = 64) (hT : Tabs w) (hr : WAt w gh oh x) :
    Calls Tryd.prog 19 #[.pointer (some ⟨gh, oh, none⟩), .slice A 64 c] w fun e w' => e = .returned (.tuple #[]) ∧ ∃ wm, Below w.heap.size w wm ∧ w' = wm.setCells gh oh ((stirL x l).map vw) := by
  have H := Lib.hid h
  have HL := Lib.hid hl
  have HT := Lib.hid hT
  have HR := Lib.hid hr
  have HXW := Lib.hid hxw
  have HXL := Lib.hid hx
  have hgh : gh < w.heap.size := World.block_lt_of_cell? w _ (hr 0 (by omega)).1
  clear h hl hT hr hxw hx
  go_enter Tryd.func19, Tryd.ntmps19
  go_wp2_with fail
  refine (spread_calls A c l w H.out HL.out).mono ?_
  rintro e w1 ⟨rfl, hb1⟩
  obtain ⟨X, hX⟩ : ∃ X, spreadL l = X := ⟨_, rfl⟩
  have hXl : X.length = 64 := by rw [← hX]; exact spr2_length l 48
  have HX : Hid (∀ _ : Unit, spreadL l = X) := Lib.hid fun _ => hX
  rw [hX]
  have HXl := Lib.hid hXl
  have HB1 := Lib.hid hb1
  clear hX hXl hb1
  have hs1 : w.heap.size ≤ w1.heap.size := HB1.out.size
  go_wp2_with (refine wpList_store_wa rfl 54 _ _ rfl w1.heap.size X rfl rfl 54 _ (heap_new w1 _ rfl) (info64 X HXl.out) (by simp [HXl.out]) ?_)
  intro w2 hW2 hg2 hs2
  have hb2 := (HB1.out.alloc hs1 _).grown hg2 (by simp <;> omega) (by intro k hk; cases hk; exact hs1)
  have hs2' : w2.heap.size = w1.heap.size + 1 := by rw [hs2]
  have HB2 := Lib.hid hb2
  have HW2 := Lib.hid hW2
  clear hg2 hs2 hb2 hW2
  have hs12 : w.heap.size ≤ w2.heap.size := by omega
  go_wp2_with (refine wpList_load_wa rfl 27 _ rfl gh oh rfl x _ (HR.out.ext hgh HB2.out) Tryd.underlying27 rfl (info8l x HXL.out) ?_)
  intro v0 HV0
  go_wp2_with ((with_reducible refine (?_ : wpList _ _ _ [_] _ _)); refine wpList_store_wa rfl 27 _ _ rfl (w1.heap.size + 1) x rfl HV0.out 27 _ (heap_new w2 _ hs2'.symm) (info8 x HXL.out) (by simp [HXL.out]) ?_)
  intro w3 hW3 hg3 hs3
  have hb3 := (HB2.out.alloc hs12 _).grown hg3 (by simp <;> omega) (by intro k hk; cases hk; omega)
  have hs3' : w3.heap.size = w1.heap.size + 2 := by rw [hs3]
  have HW3 := Lib.hid hW3
  have HX3 : Hid (WA w3 w1.heap.size 54 X) := Lib.hid ((hg3.block w1.heap.size (by simp; omega) (by simp)).trans ((HW2.out.ext (ext_alloc w2 _))))
  have HB3 := Lib.hid hb3
  clear hg3 hs3 hb3 hW3 HV0
  go_wp2_with fail
  go_loopw [18] (fun i wr => ∃ k : Nat, k ≤ 64 ∧ i = .int .i64 k ∧ Hid (WA wr (w1.heap.size + 1) 27 (rnds x X k)) ∧ Hid (WA wr w1.heap.size 54 X) ∧ Hid (Below w.heap.size w wr)) (fun i _ => 64 - (intOf i).toNat)
  case atStart => exact ⟨0, Nat.zero_le _, rfl, HW3, HX3, HB3⟩
  case round =>
    obtain ⟨k, hk, rfl, HW, HXA, HB⟩ := hrel
    by_cases h1 : k < 64
    · clear hs3' hs12 hs1 hs2' hgh
      have hlen := rnds_length (W := X) HXL.out k
      have hwd := rnds_words (W := X) HXW.out k
      obtain ⟨y, hy⟩ : ∃ y, rnds x X k = y := ⟨_, rfl⟩
      rw [hy] at HW hlen hwd
      have HY : Hid (∀ _ : Unit, rnds x X k = y) := Lib.hid fun _ => hy
      have HYL := Lib.hid hlen
      have HYW := Lib.hid hwd
      clear hy hwd
      have c0 := HW.out.cell 0 (by omega)
      have c1' := HW.out.cell 1 (by omega)
      have c2 := HW.out.cell 2 (by omega)
      have c3 := HW.out.cell 3 (by omega)
      have c4 := HW.out.cell 4 (by omega)
      have c5 := HW.out.cell 5 (by omega)
      have c6 := HW.out.cell 6 (by omega)
      have c7 := HW.out.cell 7 (by omega)
      clear hlen
      go_wp2_with fail
      go_region
      have HW4 := Lib.hid HW.out.drew
      have HX4 : Hid (WA wr.drew w1.heap.size 54 X) := Lib.hid HXA.out.drew
      have HB4 := Lib.hid HB.out.drew
      clear HW HXA HB c0 c1' c2 c3 c4 c5 c6 c7
      generalize wr.drew = w4 at *
      have b0 := HYW.out 0
      have b4 := HYW.out 4
      have HY0 : Hid (∀ _ : Unit, True) := Lib.hid fun _ => trivial
      obtain ⟨e, he⟩ : ∃ e, gw y 4 = e := ⟨_, rfl⟩
      obtain ⟨a, ha⟩ : ∃ e, gw y 0 = e := ⟨_, rfl⟩
      rw [he] at b4
      rw [ha] at b0
      rw [he, ha]
      have HEe := Lib.hid he
      have HAa := Lib.hid ha
      clear he ha
      obtain ⟨p0, hp0⟩ : ∃ p, rotr e 6 = p := ⟨_, rfl⟩
      have bp0 : p0 < 4294967296 := by rw [← hp0]; exact rotr_lt _ _ b4
      obtain ⟨p1, hp1⟩ : ∃ p, rotr e 11 = p := ⟨_, rfl⟩
      have bp1 : p1 < 4294967296 := by rw [← hp1]; exact rotr_lt _ _ b4
      obtain ⟨p2, hp2⟩ : ∃ p, rotr e 25 = p := ⟨_, rfl⟩
      have bp2 : p2 < 4294967296 := by rw [← hp2]; exact rotr_lt _ _ b4
      obtain ⟨p3, hp3⟩ : ∃ p, p0 ^^^ p1 = p := ⟨_, rfl⟩
      obtain ⟨p4, hp4⟩ : ∃ p, p3 ^^^ p2 = p := ⟨_, rfl⟩
      have bp3 : p3 < 4294967296 := by rw [← hp3]; exact xor_lt32 bp0 bp1
      have Ep1 : Hid (bits BinOp.xor IntKind.u32 (p0 : Int) (p1 : Int) = (p3 : Int)) := by show _ = _; rw [xor_u32 _ _ bp0 bp1, hp3]
      have Ep2 : Hid (bits BinOp.xor IntKind.u32 (p3 : Int) (p2 : Int) = (p4 : Int)) := by show _ = _; rw [xor_u32 _ _ bp3 bp2, hp4]
      have SP : Hid (∀ _ : Unit, bsg1 e = p4) := Lib.hid fun _ => by unfold bsg1; rw [hp0, hp1, hp2, hp3, hp4]
      have P0 := Lib.hid hp0
      have P1 := Lib.hid hp1
      have P2 := Lib.hid hp2
      clear hp0 hp1 hp2 hp3 hp4
      go_wp2_with fail
      refine (rot_calls e 6 b4 (by decide) (by decide) _).mono ?_
      rintro _ w5 ⟨rfl, rfl⟩
      rw [P0.out]
      go_wp2_with fail
      refine (rot_calls e 11 b4 (by decide) (by decide) _).mono ?_
      rintro _ w5 ⟨rfl, rfl⟩
      rw [P1.out]
      have e1 := Ep1.out
      go_wp2_with fail
      refine (rot_calls e 25 b4 (by decide) (by decide) _).mono ?_
      rintro _ w5 ⟨rfl, rfl⟩
      rw [P2.out]
      have e2 := Ep2.out
      go_wp2_with fail
      obtain ⟨x5, hx5⟩ : ∃ p, gw y 5 = p := ⟨_, rfl⟩
      obtain ⟨x6, hx6⟩ : ∃ p, gw y 6 = p := ⟨_, rfl⟩
      obtain ⟨x7, hx7⟩ : ∃ p, gw y 7 = p := ⟨_, rfl⟩
      obtain ⟨kk, hkk⟩ : ∃ p, gw roundsL k = p := ⟨_, rfl⟩
      obtain ⟨ww, hww⟩ : ∃ p, gw X k = p := ⟨_, rfl⟩
      have b5 : x5 < 4294967296 := by rw [← hx5]; exact HYW.out 5
      have b6 : x6 < 4294967296 := by rw [← hx6]; exact HYW.out 6
      have c5 := HW4.out.cell 5 (by rw [HYL.out]; decide)
      have c6 := HW4.out.cell 6 (by rw [HYL.out]; decide)
      have c7 := HW4.out.cell 7 (by rw [HYL.out]; decide)
      have ck := (HT.out.ext HB4.out).2 k h1
      have cw := HX4.out.cell k (by rw [HXl.out]; exact h1)
      rw [hx5] at c5
      rw [hx6] at c6
      rw [hx7] at c7
      rw [hkk] at ck
      rw [hww] at cw
      obtain ⟨q1, hq1⟩ : ∃ p, e &&& x5 = p := ⟨_, rfl⟩
      obtain ⟨q2, hq2⟩ : ∃ p, (4294967295 - e) &&& x6 = p := ⟨_, rfl⟩
      obtain ⟨q3, hq3⟩ : ∃ p, q1 ^^^ q2 = p := ⟨_, rfl⟩
      have bq1 : q1 < 4294967296 := by rw [← hq1]; exact and_lt32 b4
      have bq2 : q2 < 4294967296 := by rw [← hq2]; exact and_lt32 (by omega)
      have f1 : bits BinOp.and IntKind.u32 (e : Int) (x5 : Int) = (q1 : Int) := by rw [and_u32 _ _ b4 b5, hq1]
      have f2 : notU32 (e : Int) = ((4294967295 - e : Nat) : Int) := not_u32 e b4
      have f3 : bits BinOp.and IntKind.u32 ((4294967295 - e : Nat) : Int) (x6 : Int) = (q2 : Int) := by rw [and_u32 _ _ (by omega) b6, hq2]
      have f4 : bits BinOp.xor IntKind.u32 (q1 : Int) (q2 : Int) = (q3 : Int) := by rw [xor_u32 _ _ bq1 bq2, hq3]
      have CH : Hid (∀ _ : Unit, chN e x5 x6 = q3) := Lib.hid fun _ => by unfold chN; rw [hq1, hq2, hq3]
      have HX5 := Lib.hid hx5
      have HX6 := Lib.hid hx6
      have HX7 := Lib.hid hx7
      have HKK : Hid (∀ _ : Unit, gw roundsL k = kk) := Lib.hid fun _ => hkk
      have HWW := Lib.hid hww
      clear hx5 hx6 hx7 hkk hww hq1 hq2 hq3
      have hk0 : (0 : Int) ≤ k := by omega
      have hk64 : (k : Int) < 64 := by omega
      go_quiet (fail)
      obtain ⟨t, ht⟩ : ∃ t, (x7 + p4 + q3 + kk + ww) % 4294967296 = t := ⟨_, rfl⟩
      have et : (((x7 : Int) + p4 + q3 + kk) % 4294967296 + ww) % 4294967296 = (t : Int) := by omega
      rw [et]
      have RT : Hid (∀ _ : Unit, rndT y kk ww = t) := Lib.hid fun _ => by unfold rndT; rw [HEe.out, HX5.out, HX6.out, HX7.out, SP.out (), CH.out (), ht]
      have bt : t < 4294967296 := by omega
      clear et ht c5 c6 c7 ck cw f1 f2 f3 f4 e1 e2
      have HW5 := Lib.hid (HW4.out.ext (ext_drewN (Below.refl _ _) nq))
      have HX5' : Hid (WA (w4.drewN nq) w1.heap.size 54 X) := Lib.hid (HX4.out.ext (ext_drewN (Below.refl _ _) nq))
      have HB5 := Lib.hid (ext_drewN HB4.out nq)
      generalize w4.drewN nq = w5 at *
      obtain ⟨r0, hr0⟩ : ∃ p, rotr a 2 = p := ⟨_, rfl⟩
      have br0 : r0 < 4294967296 := by rw [← hr0]; exact rotr_lt _ _ b0
      obtain ⟨r1, hr1⟩ : ∃ p, rotr a 13 = p := ⟨_, rfl⟩
      have br1 : r1 < 4294967296 := by rw [← hr1]; exact rotr_lt _ _ b0
      obtain ⟨r2, hr2⟩ : ∃ p, rotr a 22 = p := ⟨_, rfl⟩
      have br2 : r2 < 4294967296 := by rw [← hr2]; exact rotr_lt _ _ b0
      obtain ⟨r3, hr3⟩ : ∃ p, r0 ^^^ r1 = p := ⟨_, rfl⟩
      obtain ⟨r4, hr4⟩ : ∃ p, r3 ^^^ r2 = p := ⟨_, rfl⟩
      have br3 : r3 < 4294967296 := by rw [← hr3]; exact xor_lt32 br0 br1
      have Er1 : Hid (bits BinOp.xor IntKind.u32 (r0 : Int) (r1 : Int) = (r3 : Int)) := by show _ = _; rw [xor_u32 _ _ br0 br1, hr3]
      have Er2 : Hid (bits BinOp.xor IntKind.u32 (r3 : Int) (r2 : Int) = (r4 : Int)) := by show _ = _; rw [xor_u32 _ _ br3 br2, hr4]
      have SR : Hid (∀ _ : Unit, bsg0 a = r4) := Lib.hid fun _ => by unfold bsg0; rw [hr0, hr1, hr2, hr3, hr4]
      have R0 := Lib.hid hr0
      have R1 := Lib.hid hr1
      have R2 := Lib.hid hr2
      clear hr0 hr1 hr2 hr3 hr4
      go_wp2_with fail
      refine (rot_calls a 2 b0 (by decide) (by decide) _).mono ?_
      rintro _ w6 ⟨rfl, rfl⟩
      rw [R0.out]
      go_wp2_with fail
      refine (rot_calls a 13 b0 (by decide) (by decide) _).mono ?_
      rintro _ w6 ⟨rfl, rfl⟩
      rw [R1.out]
      have e1 := Er1.out
      go_wp2_with fail
      refine (rot_calls a 22 b0 (by decide) (by decide) _).mono ?_
      rintro _ w6 ⟨rfl, rfl⟩
      rw [R2.out]
      have e2 := Er2.out
      obtain ⟨x1, hx1⟩ : ∃ p, gw y 1 = p := ⟨_, rfl⟩
      obtain ⟨x2, hx2⟩ : ∃ p, gw y 2 = p := ⟨_, rfl⟩
      obtain ⟨x3, hx3⟩ : ∃ p, gw y 3 = p := ⟨_, rfl⟩
      have b1 : x1 < 4294967296 := by rw [← hx1]; exact HYW.out 1
      have b2 : x2 < 4294967296 := by rw [← hx2]; exact HYW.out 2
      have c1' := HW5.out.cell 1 (by rw [HYL.out]; decide)
      have c2 := HW5.out.cell 2 (by rw [HYL.out]; decide)
      have c3 := HW5.out.cell 3 (by rw [HYL.out]; decide)
      have c5 := HW5.out.cell 5 (by rw [HYL.out]; decide)
      have c6 := HW5.out.cell 6 (by rw [HYL.out]; decide)
      rw [hx1] at c1'
      rw [hx2] at c2
      rw [hx3] at c3
      rw [HX5.out] at c5
      rw [HX6.out] at c6
      obtain ⟨m1, hm1⟩ : ∃ p, a &&& x1 = p := ⟨_, rfl⟩
      obtain ⟨m2, hm2⟩ : ∃ p, a &&& x2 = p := ⟨_, rfl⟩
      obtain ⟨m3, hm3⟩ : ∃ p, x1 &&& x2 = p := ⟨_, rfl⟩
      obtain ⟨m4, hm4⟩ : ∃ p, m1 ^^^ m2 = p := ⟨_, rfl⟩
      obtain ⟨m5, hm5⟩ : ∃ p, m4 ^^^ m3 = p := ⟨_, rfl⟩
      have bm1 : m1 < 4294967296 := by rw [← hm1]; exact and_lt32 b0
      have bm2 : m2 < 4294967296 := by rw [← hm2]; exact and_lt32 b0
      have bm3 : m3 < 4294967296 := by rw [← hm3]; exact and_lt32 b1
      have bm4 : m4 < 4294967296 := by rw [← hm4]; exact xor_lt32 bm1 bm2
      have f1 : bits BinOp.and IntKind.u32 (a : Int) (x1 : Int) = (m1 : Int) := by rw [and_u32 _ _ b0 b1, hm1]
      have f2 : bits BinOp.and IntKind.u32 (a : Int) (x2 : Int) = (m2 : Int) := by rw [and_u32 _ _ b0 b2, hm2]
      have f3 : bits BinOp.and IntKind.u32 (x1 : Int) (x2 : Int) = (m3 : Int) := by rw [and_u32 _ _ b1 b2, hm3]
      have f4 : bits BinOp.xor IntKind.u32 (m1 : Int) (m2 : Int) = (m4 : Int) := by rw [xor_u32 _ _ bm1 bm2, hm4]
      have f5 : bits BinOp.xor IntKind.u32 (m4 : Int) (m3 : Int) = (m5 : Int) := by rw [xor_u32 _ _ bm4 bm3, hm5]
      have MJ : Hid (∀ _ : Unit, majN a x1 x2 = m5) := Lib.hid fun _ => by unfold majN; rw [hm1, hm2, hm3, hm4, hm5]
      have HX1 := Lib.hid hx1
      have HX2 := Lib.hid hx2
      have HX3 := Lib.hid hx3
      clear hx1 hx2 hx3 hm1 hm2 hm3 hm4 hm5
      obtain ⟨u, hu⟩ : ∃ u, (r4 + m5) % 4294967296 = u := ⟨_, rfl⟩
      obtain ⟨n0, hn0⟩ : ∃ n, (t + u) % 4294967296 = n := ⟨_, rfl⟩
      obtain ⟨n4, hn4⟩ : ∃ n, (x3 + t) % 4294967296 = n := ⟨_, rfl⟩
      have f6 : ((r4 : Int) + m5) % 4294967296 = (u : Int) := by omega
      have f7 : ((t : Int) + u) % 4294967296 = (n0 : Int) := by omega
      have f8 : ((x3 : Int) + t) % 4294967296 = (n4 : Int) := by omega
      have RU : Hid (∀ _ : Unit, rndU y = u) := Lib.hid fun _ => by unfold rndU; rw [HAa.out, HX1.out, HX2.out, SR.out (), MJ.out (), hu]
      have RN : Hid (∀ _ : Unit, rnds x X (k + 1) = [n0, a, x1, x2, n4, e, x5, x6]) := Lib.hid fun _ => by
        rw [rnds, HY.out (), HKK.out (), HWW.out]
        unfold rnd
        rw [RT.out (), RU.out (), HAa.out, HX1.out, HX2.out, HX3.out, HEe.out, HX5.out, HX6.out, hn0, hn4]
      clear hu hn0 hn4
      go_wp2_with ((with_reducible refine (?_ : wpList _ _ _ [_] _ _)); refine wpList_store_wa rfl 27 _ _ rfl (w1.heap.size + 1) [n0, a, x1, x2, n4, e, x5, x6] rfl rfl 27 _ HW5.out (info8 _ rfl) (by simp [HYL.out]) ?_)
      intro w7 hW7 hg7 hs7
      have HW7 : Hid (WA w7 (w1.heap.size + 1) 27 (rnds x X (k + 1))) := by rw [RN.out ()]; exact Lib.hid hW7
      have HX7' : Hid (WA w7 w1.heap.size 54 X) := Lib.hid ((hg7.block w1.heap.size HX5'.out.lt (by simp)).trans HX5'.out)
      have HB7 := Lib.hid (HB5.out.grown hg7 HB5.out.size (by intro j hj; cases hj; have := HB1.out.size; omega))
      clear hW7 hg7 hs7 HW5 HX5' HB5 c1' c2 c3 c5 c6 f1 f2 f3 f4 f5 f6 f7 f8 e1 e2
      go_wp2
      exact ⟨⟨k + 1, by omega, by go_num, HW7, HX7', HB7⟩, by simp [intOf]; omega⟩
    · obtain rfl : k = 64 := by omega
      clear hs3' hs12 hs1 hs2' h1 hk
      obtain ⟨Y, hY⟩ : ∃ Y, rnds x X 64 = Y := ⟨_, rfl⟩
      have hYl : Y.length = 8 := by rw [← hY]; exact rnds_length HXL.out 64
      rw [hY] at HW
      have HYE : Hid (∀ _ : Unit, rnds x X 64 = Y) := Lib.hid fun _ => hY
      have HYl := Lib.hid hYl
      have hne : ¬ gh = w1.heap.size + 1 := by have := HB1.out.size; omega
      have HNE := Lib.hid hne
      clear hY hYl hne
      go_wp2_with fail
      go_loopw [100] (fun i wr => ∃ k : Nat, k ≤ 8 ∧ i = .int .i64 k ∧ ∃ wm, Hid (Below w.heap.size w wm) ∧ Hid (WA wm (w1.heap.size + 1) 27 Y) ∧ Hid (∀ _ : Unit, wr = wm.setCells gh oh ((stirTo x Y k).map vw))) (fun i _ => 8 - (intOf i).toNat)
      case atStart => exact ⟨0, Nat.zero_le _, rfl, _, HB, HW, Lib.hid fun _ => rfl⟩
      case round =>
        obtain ⟨k, hk, rfl, wm, HBm, HWm, HE⟩ := hrel
        by_cases h1 : k < 8
        · have hx0 : (0 : Int) ≤ k := by omega
          have hx8 : (k : Int) < 8 := by omega
          have hlen : ((stirTo x Y k).map vw).length = k := by rw [List.length_map, stirTo_length]
          have HLen := Lib.hid hlen
          have cx : wr.cell? ⟨gh, oh + k, none⟩ = some (.int .u32 (gw x k : Int)) := by
            rw [HE.out (), World.cell?_setCells_out gh _ oh wm ⟨gh, oh + k, none⟩ (fun _ _ => .inr (by rw [HLen.out]; exact Nat.le_refl _))]
            exact ((HR.out.ext hgh HBm.out) k (by rw [HXL.out]; exact h1)).1
          have fx : wr.frozen? ⟨gh, oh + k, none⟩ = false := by
            rw [HE.out (), World.frozen?_setCells]
            exact ((HR.out.ext hgh HBm.out) k (by rw [HXL.out]; exact h1)).2
          have cy : wr.cell? ⟨w1.heap.size + 1, k, none⟩ = some (.int .u32 (gw Y k : Int)) := by
            rw [HE.out (), World.cell?_setCells_out gh _ oh wm ⟨w1.heap.size + 1, k, none⟩ (fun e _ => absurd e.symm HNE.out)]
            exact HWm.out.cell k (by rw [HYl.out]; exact h1)
          have b1 := HXW.out k
          obtain ⟨xk, hxk⟩ : ∃ v, gw x k = v := ⟨_, rfl⟩
          obtain ⟨yk, hyk⟩ : ∃ v, gw Y k = v := ⟨_, rfl⟩
          rw [hxk] at cx
          rw [hyk] at cy
          obtain ⟨v, hv⟩ : ∃ v, (xk + yk) % 4294967296 = v := ⟨_, rfl⟩
          have ev : ((xk : Int) + yk) % 4294967296 = (v : Int) := by omega
          have HSt : Hid (∀ _ : Unit, stirTo x Y (k + 1) = stirTo x Y k ++ [v]) := Lib.hid fun _ => by rw [stirTo, hxk, hyk, hv]
          clear hxk hyk hv hlen b1
          go_wp2_with fail
          go_region
          have HE2 : Hid (∀ _ : Unit, (wr.setCell ⟨gh, oh + k, none⟩ (.int .u32 (v : Int))).drew = wm.drew.setCells gh oh ((stirTo x Y (k + 1)).map vw)) := Lib.hid fun _ => by
            rw [HSt.out (), List.map_append, List.map_cons, List.map_nil, setCells_snoc, HLen.out, ← setCells_drew, ← HE.out ()]
            rfl
          have HBm2 := Lib.hid HBm.out.drew
          have HWm2 := Lib.hid HWm.out.drew
          generalize (wr.setCell ⟨gh, oh + k, none⟩ (.int .u32 (v : Int))).drew = w8 at *
          clear cx fx cy ev
          go_wp2
          exact ⟨⟨k + 1, by omega, by go_num, wm.drew, HBm2, HWm2, HE2⟩, by simp [intOf]; omega⟩
        · obtain rfl : k = 8 := by omega
          clear h1 hk
          go_wp2
          go_end0
          refine ⟨rfl, wm, HBm.out, ?_⟩
          rw [HE.out ()]
          unfold stirL
          rw [HX.out (), HYE.out ()]
end Go.Proofs.YtchbnablefoemaaDoor
