/- digest: the contract of Write. -/
import Derived.Test.YtchbnablefoemaaDoorHashA
import Derived.Test.YtchbnablefoemaaDoorInfoB
import Derived.Deep.RegionWith
import Derived.NoCompiler
namespace Go.Proofs.YtchbnablefoemaaDoor
open Go.RowKit
set_option linter.unusedVariables false

/-- 'append' where there is room: the value is known. -/
theorem wpList_appB_fits {P : Program} {w : World} {ops : Array Oper} {rest : List Oper} {o : Oper} {a : Act} {Q : Exit → Act → World → Prop} (hgd : o.guard = none) (s x : Operand) (t : TypeId)
    (ho : o.op = .call { callee := .builtin .append, args := #[s, x], argTypes := #[t, t] })
    (base : Nat) (e : TypeId) (ht : P.underlying t = some (.slice e)) (hinfo : (P.info? e).map (fun i => (i.zero, i.size, i.bytes)) = some (some (.int .u8 0), 1, 1))
    (g n cap : Nat) (l1 : List UInt8) (hs : a.eval s = .slice (some ⟨g, 0, none⟩) n cap) (hn : l1.length = n) (hown : OwnB base e w (.slice (some ⟨g, 0, none⟩) n cap) l1)
    (A : Option Addr) (m c : Nat) (l2 : List UInt8) (hx : a.eval x = .slice A m c) (hm : l2.length = m) (hr : RB w A l2) (hroom : n + m ≤ cap)
    (h : ∀ w', OwnB base e w' (.slice (some ⟨g, 0, none⟩) (n + m) cap) (l1 ++ l2) → w.grownBy w' (some g) → wpList P ops Q rest (a.put o.dst (.slice (some ⟨g, 0, none⟩) (n + m) cap)) w') :
    wpList P ops Q (o :: rest) a w := by
  obtain ⟨i, hi, hz, hsize, hby⟩ := info_parts hinfo
  subst hm hn
  cases A with
  | some ad =>
    obtain ⟨w', hrun, hown', hg⟩ := run_append_fits (P := P) w base t o.type e i 1 ht hi hsize g l1.length cap (l1.map vb) hown ad l2.length c (l2.map vb) (by simp) (fun j u hj => by
      obtain ⟨b, o', e', hc⟩ := RV.of_RB hr j u hj
      cases e'
      have : (⟨b, o', none⟩ : Addr).add j = ⟨b, o' + j, none⟩ := by unfold Addr.add; split <;> simp_all
      rw [this]; exact hc) (vb_one l2) hroom
    refine wpList_app_run hgd s x t t ho _ _ _ w' hs hx hrun (h w' ?_ hg)
    unfold OwnB
    rw [List.length_append, List.map_append]
    exact hown'
  | none =>
    have hn : l2 = [] := by
      cases l2 with
      | nil => rfl
      | cons u r => obtain ⟨b, o, e, _⟩ := hr 0 (by simp); cases e
    subst hn
    have hrun : (Builtin.append_ #[t, t] o.type #[.slice (some ⟨g, 0, none⟩) l1.length cap, .slice none 0 c]).run P w = .ok (.slice (some ⟨g, 0, none⟩) l1.length cap) w := by
      have hc : l1.length ≤ cap := by simp at hroom; exact hroom
      simp [Builtin.append_, run_underlying ht, sizeOf, typeInfo, hi, Builtin.lenOf, Builtin.firstCells, hc, storeCells]
    exact wpList_app_run hgd s x t t ho _ _ _ w hs (by simpa using hx) hrun (h w (by simpa using hown) (World.grownBy.refl _ _))

/-- What region 2 of Write goes through. -/
def WrInv (H : Nat) (w : World) (k : Nat) (r b : List UInt8) (bb : Nat → Bool) (W : World) : Prop :=
  Below H w W ∧ H ≤ W.heap.size ∧
  bif bb 15 then OwnB H 5 W (.slice (some ⟨H, 0, none⟩) (r.length + b.length) k) (r ++ b)
  else bif bb 13 then OwnB H 5 W (.slice (some ⟨H, 0, none⟩) r.length k) r
  else bif bb 8 then OwnB H 5 W (.slice (some ⟨H, 0, none⟩) 0 k) []
  else W.heap.size = H

section
variable {H : Nat} {w W W' : World} {k : Nat} {r b : List UInt8} {bb : Nat → Bool}
theorem WrInv.start (w : World) (k : Nat) (r b : List UInt8) : WrInv w.heap.size w k r b (fun _ => false) w.drew := ⟨(Below.refl _ _).drew, Nat.le_refl _, rfl⟩
theorem WrInv.zero (h : WrInv H w k r b bb W) (n15 : bb 15 = false) (n13 : bb 13 = false) (n8 : bb 8 = false) : W.heap.size = H := by
  have := h.2.2; rw [n15, n13, n8] at this; exact this
theorem WrInv.made (h : WrInv H w k r b bb W) (n15 : bb 15 = false) (n13 : bb 13 = false) (ho : OwnB H 5 W' (.slice (some ⟨H, 0, none⟩) 0 k) []) (hg : W.grownBy W' none) : WrInv H w k r b (upd bb 8) W' :=
  ⟨grown_none h.1 hg h.2.1, Nat.le_trans h.2.1 hg.size, by rw [upd_ne (by decide), n15, upd_ne (by decide), n13, upd_self]; exact ho⟩
theorem WrInv.one (h : WrInv H w k r b bb W) (n15 : bb 15 = false) (n13 : bb 13 = false) (p8 : bb 8 = true) : OwnB H 5 W (.slice (some ⟨H, 0, none⟩) 0 k) [] := by
  have := h.2.2; rw [n15, n13, p8] at this; exact this
theorem WrInv.two (h : WrInv H w k r b bb W) (n15 : bb 15 = false) (ho : OwnB H 5 W' (.slice (some ⟨H, 0, none⟩) r.length k) r) (hg : W.grownBy W' (some H)) : WrInv H w k r b (upd bb 13) W' :=
  ⟨h.1.grown hg h.2.1 (fun _ e => by cases e; exact Nat.le_refl _), Nat.le_trans h.2.1 hg.size, by rw [upd_ne (by decide), n15, upd_self]; exact ho⟩
theorem WrInv.mid (h : WrInv H w k r b bb W) (n15 : bb 15 = false) (p13 : bb 13 = true) : OwnB H 5 W (.slice (some ⟨H, 0, none⟩) r.length k) r := by
  have := h.2.2; rw [n15, p13] at this; exact this
theorem WrInv.three (h : WrInv H w k r b bb W) (ho : OwnB H 5 W' (.slice (some ⟨H, 0, none⟩) (r.length + b.length) k) (r ++ b)) (hg : W.grownBy W' (some H)) : WrInv H w k r b (upd bb 15) W' :=
  ⟨h.1.grown hg h.2.1 (fun _ e => by cases e; exact Nat.le_refl _), Nat.le_trans h.2.1 hg.size, by rw [upd_self]; exact ho⟩
theorem WrInv.done (h : WrInv H w k r b bb W) (p15 : bb 15 = true) : OwnB H 5 W (.slice (some ⟨H, 0, none⟩) (r.length + b.length) k) (r ++ b) := by
  have := h.2.2; rw [p15] at this; exact this
/-- Another step leaves it. -/
theorem WrInv.step (h : WrInv H w k r b bb W) {i : Nat} (h1 : i ≠ 8) (h2 : i ≠ 13) (h3 : i ≠ 15) : WrInv H w k r b (upd bb i) W := by
  refine ⟨h.1, h.2.1, ?_⟩
  rw [upd_ne (Ne.symm h1), upd_ne (Ne.symm h2), upd_ne (Ne.symm h3)]
  exact h.2.2
end

/-- How long a slice is. -/
def lenV : Value → Nat
  | .slice _ m _ => m
  | _ => 0
theorem lenV_slice (A : Option Addr) (m c : Nat) : lenV (.slice A m c) = m := rfl
/-- What a round of Write's loop leaves. -/
theorem write_round {g : Nat} {x : List Nat} (hx : x.length = 8) {T : List UInt8} {j : Nat} {R : Value} {N : Nat} {w wr wm : World} (hK : BK wr g 29 (hcs (hashTo x T j) R N)) (hG : w.grownBy wr (some g)) (hT : Tabs wr)
    (h1 : g ≠ 0) (h2 : g ≠ 1) (hbm : Below wr.drew.heap.size wr.drew wm) {w' : World} (hw : w' = wm.setCells g 0 (List.map vw (stirL (hashTo x T j) (List.take 64 (List.drop (64 * j) T))))) :
    BK w' g 29 (hcs (hashTo x T (j + 1)) R N) ∧ wr.grownBy w' (some g) ∧ w.grownBy w' (some g) ∧ Tabs w' := by
  have hb : Below wr.heap.size wr wm := ⟨hbm.os, hbm.tape, hbm.output, hbm.size, hbm.block⟩
  have hg : wr.grownBy w' (some g) := by rw [hw]; exact grown_trans (grown_of_below hb _) (grown_setCells wm g 0 _)
  refine ⟨?_, hg, grown_trans hG hg, hT.grown hg h1 h2⟩
  have := BK.setCells (List.map vw (stirL (hashTo x T j) (List.take 64 (List.drop (64 * j) T)))) 0 _ wm (hK.ext hb) (by simp [hcs, stirL_length, hashTo_length T hx j])
  rw [hcs_words (hashTo_length T hx j) (stirL_length _ _)] at this
  rw [hw]
  exact this
theorem drop_next (T : List UInt8) (j : Nat) : (T.drop (64 * j)).drop 64 = T.drop (64 * (j + 1)) := by rw [List.drop_drop]; congr 1

set_option maxRecDepth 8000 in
set_option maxHeartbeats 1000000 in
theorem write_core (g : Nat) (x : List Nat) (hx : x.length = 8) (hxw : Words x) (R : Option Addr) (c0 : Nat) (r : List UInt8) (n : Nat) (w : World)
    (hK : BK w g 29 (hcs x (.slice R r.length c0) n)) (hR : RB w R r) (hoff : Off g R) (hT : Tabs w) (hg1 : g ≠ 0) (hg2 : g ≠ 1)
    (A : Option Addr) (c : Nat) (b : List UInt8) (h : RB w A b) (hA : 0 < b.length → Off g A) (hr : r.length ≤ 1000) (hb : b.length ≤ 140737488351232) (hn : n ≤ 1152921504606846976) :
    Calls Tryd.prog 10 #[.pointer (some ⟨g, 0, none⟩), .slice A b.length c] w fun e w' => e = .returned (.tuple #[]) ∧ ∃ R' c',
      BK w' g 29 (hcs (hashTo x (r ++ b) ((r ++ b).length / 64)) (.slice R' ((r ++ b).drop (64 * ((r ++ b).length / 64))).length c') (n + b.length)) ∧ RB w' R' ((r ++ b).drop (64 * ((r ++ b).length / 64))) ∧
      ((r ++ b).drop (64 * ((r ++ b).length / 64))).length ≤ c' ∧ From w.heap.size R' ∧ w.grownBy w' (some g) := by
  have c8 := hK.cell (hcs_8 hx _ n).1
  have c9 := hK.cell (hcs_8 hx (.slice R r.length c0) n).2.1
  have c10 := hK.cell (hcs_8 hx (.slice R r.length c0) n).2.2
  have f9 := hK.frozen 9
  have hK1 := hK.set 9 (.int .i64 ((n + b.length : Nat) : Int))
  rw [hcs_set9 hx] at hK1
  have hE : ((n + b.length : Nat) : Int) = (n : Int) + (b.length : Int) := by omega
  rw [hE] at hK1
  have hgr := grown_setCell w g 9 (.int .i64 ((n : Int) + (b.length : Int)))
  have HK1 := Lib.hid hK1
  have HR1 := Lib.hid (hR.grown hgr fun _ => hoff)
  have HA1 := Lib.hid (h.grown hgr hA)
  have HT1 := Lib.hid (hT.grown hgr hg1 hg2)
  have HG1 := Lib.hid hgr
  have HX := Lib.hid hx
  have HXW := Lib.hid hxw
  have HO := Lib.hid hoff
  have HOA := Lib.hid hA
  have HN1 := Lib.hid hg1
  have HN2 := Lib.hid hg2
  have HGL := Lib.hid hK.lt
  clear hK hR hoff hT h hA hgr hE hx hxw hK1 hg1 hg2
  go_enter Tryd.func10, Tryd.ntmps10
  go_wp2_with fail
  generalize w.setCell ⟨g, 9, none⟩ (.int .i64 ((n : Int) + (b.length : Int))) = w1 at *
  have hs1 : Hid (w.heap.size ≤ w1.heap.size) := Lib.hid HG1.out.size
  clear c8 c9 c10 f9
  have c8 := HK1.out.cell (hcs_8 HX.out (.slice R r.length c0) (n + b.length)).1
  have HGL1 : Hid (g < w1.heap.size) := Lib.hid HK1.out.lt
  have C8 := Lib.hid c8
  clear c8
-- REGION wr2
  refine wp_region_inv [[], [0], [0, 1], [0, 1, 2], [0, 1, 2, 3], [], [5], [0, 1, 2, 3, 4, 5, 6], [0, 1, 2, 3, 4, 5, 6, 7], [], [9], [9, 10], [9, 10, 11], [0, 1, 2, 3, 4, 5, 6, 7, 8, 9, 10, 11, 12], [], [0, 1, 2, 3, 4, 5, 6, 7, 8, 9, 10, 11, 12, 13, 14], [0, 1, 2, 3, 4, 5, 6, 7, 8, 9, 10, 11, 12, 13, 14, 15]]
    [fun u => u = .pointer (some ⟨g, 0, none⟩),
     fun u => u = .pointer (some ⟨g, 0, none⟩),
     fun u => u = .pointer (some ⟨g, 8, none⟩),
     fun u => u = .slice R r.length c0,
     fun u => u = .int .i64 (r.length : Int),
     fun u => u = .slice A b.length c,
     fun u => u = .int .i64 (b.length : Int),
     fun u => u = .int .i64 ((r.length : Int) + (b.length : Int)),
     fun u => u = .slice (some ⟨w1.heap.size, 0, none⟩) 0 (r.length + b.length),
     fun u => u = .pointer (some ⟨g, 0, none⟩),
     fun u => u = .pointer (some ⟨g, 0, none⟩),
     fun u => u = .pointer (some ⟨g, 8, none⟩),
     fun u => u = .slice R r.length c0,
     fun u => u = .slice (some ⟨w1.heap.size, 0, none⟩) r.length (r.length + b.length),
     fun u => u = .slice A b.length c,
     fun u => u = .slice (some ⟨w1.heap.size, 0, none⟩) (r.length + b.length) (r.length + b.length),
     fun u => u = .slice (some ⟨w1.heap.size, 0, none⟩) (r.length + b.length) (r.length + b.length)]
    (fun u => ⟨#[Value.pointer (some { block := g, off := 0 }), Value.slice A b.length c, undef, undef, u 16, Value.pointer (some { block := g, off := 0 }), Value.bool false, Value.bool false, Value.pointer (some { block := g, off := 0 }), Value.pointer (some { block := g, off := 0 }), Value.pointer (some { block := g, off := 10 }), Value.bool true, Value.bool false, Value.bool false, Value.pointer (some { block := g, off := 0 }), Value.pointer (some { block := g, off := 0 }), Value.pointer (some { block := g, off := 9 }), Value.int IntKind.i64 (n : Int), Value.slice A b.length c, Value.int IntKind.i64 (b.length : Int), Value.int IntKind.i64 ((n : Int) + (b.length : Int)), Value.pointer (some { block := g, off := 0 }), Value.pointer (some { block := g, off := 9 }), u 0, u 1, u 2, u 3, u 4, u 5, u 6, u 7, u 8, u 9, u 10, u 11, u 12, u 13, u 14, u 15, undef, undef, undef, undef, undef, undef, undef, undef, undef, undef, undef, undef, undef, undef, undef], []⟩)
    (WrInv w1.heap.size w1 (r.length + b.length) r b) (fun j => [undef, undef, undef, undef, undef, undef, undef, undef, undef, undef, undef, undef, undef, undef, undef, undef, undef].getD j undef) (by kernel_rfl) (by kernel_rfl) (by kernel_rfl) rfl (WrInv.start _ _ _ _) ?_ ?_
  · refine ⟨?_, ?_, ?_, ?_, ?_, ?_, ?_, ?_, ?_, ?_, ?_, ?_, ?_, ?_, ?_, ?_, ?_, trivial⟩
    · intro bb u w2 hv hbi hC hF J K hJ hK
      have HV := Lib.hid hv
      have HF := Lib.hid hF
      have HC := Lib.hid hC
      have HBI := Lib.hid hbi
      clear hv hF hC hbi
      go_wp2
      exact hJ _ _ _ (HV.out.step (by decide) (by decide) (by decide)) (rfl) (by simp [setU] <;> omega)
    · intro bb u w2 hv hbi hC hF J K hJ hK
      have HV := Lib.hid hv
      have HF := Lib.hid hF
      have HC := Lib.hid hC
      have HBI := Lib.hid hbi
      clear hv hF hC hbi
      have f0 : u 0 = .pointer (some ⟨g, 0, none⟩) := (HF.out 0 (by decide)).2
      go_wp2
      exact hJ _ _ _ (HV.out.step (by decide) (by decide) (by decide)) (rfl) (by simp [setU, f0] <;> omega)
    · intro bb u w2 hv hbi hC hF J K hJ hK
      have HV := Lib.hid hv
      have HF := Lib.hid hF
      have HC := Lib.hid hC
      have HBI := Lib.hid hbi
      clear hv hF hC hbi
      have f1 : u 1 = .pointer (some ⟨g, 0, none⟩) := (HF.out 1 (by decide)).2
      go_wp2
      exact hJ _ _ _ (HV.out.step (by decide) (by decide) (by decide)) (rfl) (by simp [setU, f1] <;> omega)
    · intro bb u w2 hv hbi hC hF J K hJ hK
      have HV := Lib.hid hv
      have HF := Lib.hid hF
      have HC := Lib.hid hC
      have HBI := Lib.hid hbi
      clear hv hF hC hbi
      have f2 : u 2 = .pointer (some ⟨g, 8, none⟩) := (HF.out 2 (by decide)).2
      have hc : w2.cell? ⟨g, 8, none⟩ = some (.slice R r.length c0) := (HV.out.1.cell (p := ⟨g, 8, none⟩) HGL1.out).trans C8.out
      go_wp2
      exact hJ _ _ _ (HV.out.step (by decide) (by decide) (by decide)) (rfl) (by simp [setU, f2] <;> omega)
    · intro bb u w2 hv hbi hC hF J K hJ hK
      have HV := Lib.hid hv
      have HF := Lib.hid hF
      have HC := Lib.hid hC
      have HBI := Lib.hid hbi
      clear hv hF hC hbi
      have f3 : u 3 = .slice R r.length c0 := (HF.out 3 (by decide)).2
      go_wp2
      exact hJ _ _ _ (HV.out.step (by decide) (by decide) (by decide)) (rfl) (by simp [setU, f3] <;> omega)
    · intro bb u w2 hv hbi hC hF J K hJ hK
      have HV := Lib.hid hv
      have HF := Lib.hid hF
      have HC := Lib.hid hC
      have HBI := Lib.hid hbi
      clear hv hF hC hbi
      go_wp2
      exact hJ _ _ _ (HV.out.step (by decide) (by decide) (by decide)) (rfl) (by simp [setU] <;> omega)
    · intro bb u w2 hv hbi hC hF J K hJ hK
      have HV := Lib.hid hv
      have HF := Lib.hid hF
      have HC := Lib.hid hC
      have HBI := Lib.hid hbi
      clear hv hF hC hbi
      have f5 : u 5 = .slice A b.length c := (HF.out 5 (by decide)).2
      go_wp2
      exact hJ _ _ _ (HV.out.step (by decide) (by decide) (by decide)) (rfl) (by simp [setU, f5] <;> omega)
    · intro bb u w2 hv hbi hC hF J K hJ hK
      have HV := Lib.hid hv
      have HF := Lib.hid hF
      have HC := Lib.hid hC
      have HBI := Lib.hid hbi
      clear hv hF hC hbi
      have f4 : u 4 = .int .i64 (r.length : Int) := (HF.out 4 (by decide)).2
      have f6 : u 6 = .int .i64 (b.length : Int) := (HF.out 6 (by decide)).2
      go_wp2
      exact hJ _ _ _ (HV.out.step (by decide) (by decide) (by decide)) (rfl) (by simp [setU, f4, f6] <;> omega)
    · intro bb u w2 hv hbi hC hF J K hJ hK
      have HV := Lib.hid hv
      have HF := Lib.hid hF
      have HC := Lib.hid hC
      have HBI := Lib.hid hbi
      clear hv hF hC hbi
      have f7 : u 7 = .int .i64 ((r.length : Int) + (b.length : Int)) := (HF.out 7 (by decide)).2
      have n13 : bb 13 = false := by cases h : bb 13 with | false => rfl | true => exact absurd (HC.out 13 8 (by decide) h) (by rw [HBI.out]; decide)
      have n15 : bb 15 = false := by cases h : bb 15 with | false => rfl | true => exact absurd (HC.out 15 8 (by decide) h) (by rw [HBI.out]; decide)
      have hsz := HV.out.zero n15 n13 HBI.out
      dsimp only
      rw [f7]
      go_wp2_with (at_make; refine wpList_makeB rfl _ _ 22 rfl w1.heap.size 5 Tryd.underlying22 infoB _ _ _ (r.length + b.length) rfl rfl (by omega) (by omega) (by omega) ?_)
      intro w3 ho hg3
      have HI := Lib.hid (HV.out.made n15 n13 ho hg3)
      clear ho hg3 hsz n13 n15
      go_wp2
      exact hJ _ _ _ (HI.out) (rfl) (by simp [setU, f7] <;> omega)
    · intro bb u w2 hv hbi hC hF J K hJ hK
      have HV := Lib.hid hv
      have HF := Lib.hid hF
      have HC := Lib.hid hC
      have HBI := Lib.hid hbi
      clear hv hF hC hbi
      go_wp2
      exact hJ _ _ _ (HV.out.step (by decide) (by decide) (by decide)) (rfl) (by simp [setU] <;> omega)
    · intro bb u w2 hv hbi hC hF J K hJ hK
      have HV := Lib.hid hv
      have HF := Lib.hid hF
      have HC := Lib.hid hC
      have HBI := Lib.hid hbi
      clear hv hF hC hbi
      have f9 : u 9 = .pointer (some ⟨g, 0, none⟩) := (HF.out 9 (by decide)).2
      go_wp2
      exact hJ _ _ _ (HV.out.step (by decide) (by decide) (by decide)) (rfl) (by simp [setU, f9] <;> omega)
    · intro bb u w2 hv hbi hC hF J K hJ hK
      have HV := Lib.hid hv
      have HF := Lib.hid hF
      have HC := Lib.hid hC
      have HBI := Lib.hid hbi
      clear hv hF hC hbi
      have f10 : u 10 = .pointer (some ⟨g, 0, none⟩) := (HF.out 10 (by decide)).2
      go_wp2
      exact hJ _ _ _ (HV.out.step (by decide) (by decide) (by decide)) (rfl) (by simp [setU, f10] <;> omega)
    · intro bb u w2 hv hbi hC hF J K hJ hK
      have HV := Lib.hid hv
      have HF := Lib.hid hF
      have HC := Lib.hid hC
      have HBI := Lib.hid hbi
      clear hv hF hC hbi
      have f11 : u 11 = .pointer (some ⟨g, 8, none⟩) := (HF.out 11 (by decide)).2
      have hc : w2.cell? ⟨g, 8, none⟩ = some (.slice R r.length c0) := (HV.out.1.cell (p := ⟨g, 8, none⟩) HGL1.out).trans C8.out
      go_wp2
      exact hJ _ _ _ (HV.out.step (by decide) (by decide) (by decide)) (rfl) (by simp [setU, f11] <;> omega)
    · intro bb u w2 hv hbi hC hF J K hJ hK
      have HV := Lib.hid hv
      have HF := Lib.hid hF
      have HC := Lib.hid hC
      have HBI := Lib.hid hbi
      clear hv hF hC hbi
      have f8 : u 8 = .slice (some ⟨w1.heap.size, 0, none⟩) 0 (r.length + b.length) := (HF.out 8 (by decide)).2
      have f12 : u 12 = .slice R r.length c0 := (HF.out 12 (by decide)).2
      have n15 : bb 15 = false := by cases h : bb 15 with | false => rfl | true => exact absurd (HC.out 15 13 (by decide) h) (by rw [HBI.out]; decide)
      have p8 : bb 8 = true := (HF.out 8 (by decide)).1
      have hO := Lib.hid (HV.out.one n15 HBI.out p8)
      dsimp only
      rw [f8, f12]
      go_wp2_with (at_builtin; refine wpList_appB_fits rfl _ _ 22 rfl w1.heap.size 5 Tryd.underlying22 infoB w1.heap.size 0 (r.length + b.length) [] (by rfl) rfl hO.out R r.length c0 r (by rfl) rfl (HR1.out.ext HV.out.1) (by omega) ?_)
      intro w3 ho hg3
      have HI := Lib.hid (HV.out.two n15 ho hg3)
      clear ho hg3 hO n15 p8
      go_wp2
      exact hJ _ _ _ (HI.out) (rfl) (by simp [setU, f8, f12] <;> omega)
    · intro bb u w2 hv hbi hC hF J K hJ hK
      have HV := Lib.hid hv
      have HF := Lib.hid hF
      have HC := Lib.hid hC
      have HBI := Lib.hid hbi
      clear hv hF hC hbi
      go_wp2
      exact hJ _ _ _ (HV.out.step (by decide) (by decide) (by decide)) (rfl) (by simp [setU] <;> omega)
    · intro bb u w2 hv hbi hC hF J K hJ hK
      have HV := Lib.hid hv
      have HF := Lib.hid hF
      have HC := Lib.hid hC
      have HBI := Lib.hid hbi
      clear hv hF hC hbi
      have f13 : u 13 = .slice (some ⟨w1.heap.size, 0, none⟩) r.length (r.length + b.length) := (HF.out 13 (by decide)).2
      have f14 : u 14 = .slice A b.length c := (HF.out 14 (by decide)).2
      have p13 : bb 13 = true := (HF.out 13 (by decide)).1
      have hO := Lib.hid (HV.out.mid HBI.out p13)
      dsimp only
      rw [f13, f14]
      go_wp2_with (at_builtin; refine wpList_appB_fits rfl _ _ 22 rfl w1.heap.size 5 Tryd.underlying22 infoB w1.heap.size r.length (r.length + b.length) r (by rfl) rfl hO.out A b.length c b (by rfl) rfl (HA1.out.ext HV.out.1) (by omega) ?_)
      intro w3 ho hg3
      have HI := Lib.hid (HV.out.three ho hg3)
      clear ho hg3 hO p13
      go_wp2
      exact hJ _ _ _ (HI.out) (rfl) (by simp [setU, f13, f14] <;> omega)
    · intro bb u w2 hv hbi hC hF J K hJ hK
      have HV := Lib.hid hv
      have HF := Lib.hid hF
      have HC := Lib.hid hC
      have HBI := Lib.hid hbi
      clear hv hF hC hbi
      have f15 : u 15 = .slice (some ⟨w1.heap.size, 0, none⟩) (r.length + b.length) (r.length + b.length) := (HF.out 15 (by decide)).2
      go_wp2
      exact hJ _ _ _ (HV.out.step (by decide) (by decide) (by decide)) (rfl) (by simp [setU, f15] <;> omega)
  · intro bb u w2 hb hv hF
    have HV := Lib.hid hv
    have HBB := Lib.hid hb
    have f16 : u 16 = .slice (some ⟨w1.heap.size, 0, none⟩) (r.length + b.length) (r.length + b.length) := hF 16 (by decide)
    clear hv hb hF
    have ho := HV.out.done (HBB.out 15 (by decide))
    have hb2 := HV.out.1
    have hlt2 := HV.out.2.1
    obtain ⟨_, _, e1, hr2, _, _⟩ := ho.form
    injection e1 with ea eb ec
    subst ea
    clear eb ec
    clear ho
    have HR2 := Lib.hid hr2
    have HG2 := Lib.hid (grown_trans HG1.out (grown_of_below (hb2.mono (Nat.le_refl _)) (some g)))
    have HK2 : Hid (BK w2 g 29 (hcs x (.slice R r.length c0) (n + b.length))) := Lib.hid (HK1.out.ext hb2)
    have HT2 := Lib.hid (HT1.out.ext hb2)
    clear hr2 hb2 HV HBB HK1 HR1 HA1 HT1 HG1 C8
    dsimp only
    rw [f16]
    clear f16
    obtain ⟨T, hTe⟩ : ∃ T, r ++ b = T := ⟨_, rfl⟩
    have hTl : T.length = r.length + b.length := by rw [← hTe, List.length_append]
    rw [hTe] at HR2
    rw [← hTl]
    have hTL : T.length ≤ 140737488352300 := by omega
    have HTE := Lib.hid hTe
    have HTL := Lib.hid hTl
    have HL2 := Lib.hid hlt2
    clear hTe hTl hlt2
-- END wr2
    go_wp2_with fail
    go_loopw [4] (fun v wr => ∃ (j m c1 : Nat) (A1 : Option Addr), v = .slice A1 m c1 ∧ m ≤ c1 ∧ m ≤ 140737488352300 ∧ Hid (64 * j + m = T.length) ∧ Hid (RB wr A1 (T.drop (64 * j))) ∧ Hid (From w1.heap.size A1) ∧
      Hid (BK wr g 29 (hcs (hashTo x T j) (.slice R r.length c0) (n + b.length))) ∧ Hid (w.grownBy wr (some g)) ∧ Hid (Tabs wr)) (fun v _ => lenV v)
    case atStart => exact ⟨0, T.length, T.length, _, rfl, Nat.le_refl _, hTL, Lib.hid (by omega), HR2, Lib.hid (fun _ _ e => by cases e; exact Nat.le_refl _), HK2, HG2, HT2⟩
    case round =>
      obtain ⟨j, m, c1, A1, rfl, hmc, hm, HM, HR, HF, HK, HG, HT⟩ := hrel
      by_cases h64 : 64 ≤ m
      · have hdl : (T.drop (64 * j)).length = m := by rw [List.length_drop]; have := HM.out; omega
        obtain ⟨b1, o1, rfl, _⟩ := HR.out 0 (by omega)
        have HRT := Lib.hid (HR.out.take 64)
        have htl : ((T.drop (64 * j)).take 64).length = 64 := by rw [List.length_take, hdl]; omega
        have HTK := Lib.hid htl
        have HDL := Lib.hid hdl
        clear htl hdl
        have hbg : b1 ≠ g := by have := HF.out b1 o1 rfl; have := HGL1.out; omega
        have HBG := Lib.hid hbg
        clear hbg
        by_cases hc : c1 = 64
        · obtain rfl : m = 64 := by omega
          subst hc
          go_wp2_with fail
          go_region_with (go_at_call 19; refine (stir_calls g 0 (hashTo x T j) (hashTo_length T HX.out j) (hashTo_words T HXW.out j) _ 64 _ wr.drew HRT.out HTK.out HT.out (hcs_at HK.out)).mono ?_; rintro e w' ⟨rfl, wm, hbm, rfl⟩)
          obtain ⟨w5, hw5⟩ : ∃ w5, wm.setCells g 0 (List.map vw (stirL (hashTo x T j) (List.take 64 (List.drop (64 * j) T)))) = w5 := ⟨_, rfl⟩
          obtain ⟨hk, hg, hgw, ht⟩ := write_round HX.out HK.out HG.out HT.out HN1.out HN2.out hbm hw5.symm
          rw [hw5]
          have HK5 := Lib.hid hk
          have HG5 := Lib.hid hgw
          have HT5 := Lib.hid ht
          clear hw5 hbm hk hg hgw ht HK HG HT HRT
          go_wp2
          refine ⟨⟨j + 1, 0, 0, _, rfl, Nat.le_refl _, Nat.zero_le _, Lib.hid (by have := HM.out; omega), Lib.hid ?_, HF, HK5, HG5, HT5⟩, by simp [lenV]⟩
          rw [List.drop_eq_nil_of_le (by have := HM.out; omega)]
          exact RB.nil _ _
        · go_wp2_with fail
          go_region_with (go_at_call 19; refine (stir_calls g 0 (hashTo x T j) (hashTo_length T HX.out j) (hashTo_words T HXW.out j) _ c1 _ wr.drew HRT.out HTK.out HT.out (hcs_at HK.out)).mono ?_; rintro e w' ⟨rfl, wm, hbm, rfl⟩)
          obtain ⟨w5, hw5⟩ : ∃ w5, wm.setCells g 0 (List.map vw (stirL (hashTo x T j) (List.take 64 (List.drop (64 * j) T)))) = w5 := ⟨_, rfl⟩
          obtain ⟨hk, hg, hgw, ht⟩ := write_round HX.out HK.out HG.out HT.out HN1.out HN2.out hbm hw5.symm
          rw [hw5]
          have HK5 := Lib.hid hk
          have HG5 := Lib.hid hgw
          have HT5 := Lib.hid ht
          have hr5 := (HR.out.grown hg (fun _ _ _ e => by cases e; exact HBG.out)).drop 64
          rw [drop_next] at hr5
          have HR5 := Lib.hid hr5
          clear hw5 hbm hk hg hgw ht HK HG HT HRT hr5
          go_wp2
          exact ⟨⟨j + 1, m - 64, c1 - 64, _, rfl, by omega, by omega, Lib.hid (by have := HM.out; omega), HR5, Lib.hid (fun _ _ e => by cases e; exact HF.out b1 o1 rfl), HK5, HG5, HT5⟩, by simp [lenV]; omega⟩
      · have c8 := HK.out.cell (hcs_8 (hashTo_length T HX.out j) (.slice R r.length c0) (n + b.length)).1
        have f8 := HK.out.frozen 8
        have hk6 := HK.out.set 8 (.slice A1 m c1)
        rw [hcs_set8 (hashTo_length T HX.out j)] at hk6
        have hg6 := grown_trans HG.out (grown_setCell wr g 8 (.slice A1 m c1))
        have hr6 := HR.out.grown (grown_setCell wr g 8 (.slice A1 m c1)) (fun _ => HF.out.off HGL1.out)
        have HK6 := Lib.hid hk6
        have HG6 := Lib.hid hg6
        have HR6 := Lib.hid hr6
        clear hk6 hg6 hr6
        go_wp2
        go_end0
        have hj : (r ++ b).length / 64 = j := by rw [HTE.out]; have := HM.out; omega
        refine ⟨rfl, A1, c1, ?_⟩
        rw [hj, HTE.out, show (T.drop (64 * j)).length = m by rw [List.length_drop]; have := HM.out; omega]
        exact ⟨HK6.out, HR6.out, hmc, HF.out.mono hs1.out, HG6.out⟩

/-- Write, of what was given so far. -/
theorem write_calls (g : Nat) (R : Option Addr) (L : List UInt8) (w : World) (hH : HashIs w g R L) (hoff : Off g R) (hT : Tabs w) (hg1 : g ≠ 0) (hg2 : g ≠ 1)
    (A : Option Addr) (c : Nat) (b : List UInt8) (h : RB w A b) (hA : 0 < b.length → Off g A) (hb : b.length ≤ 140737488351232) (hn : L.length ≤ 1152921504606846976) :
    Calls Tryd.prog 10 #[.pointer (some ⟨g, 0, none⟩), .slice A b.length c] w fun e w' => e = .returned (.tuple #[]) ∧ ∃ R', HashIs w' g R' (L ++ b) ∧ From w.heap.size R' ∧ w.grownBy w' (some g) := by
  obtain ⟨c0, hK, hR, hc⟩ := hH
  refine (write_core g (hashL L) (hashL_length L) (hashL_words L) R c0 (restL L) L.length w hK hR hoff hT hg1 hg2 A c b h hA (by rw [restL_length]; omega) hb hn).mono ?_
  rintro e w' ⟨he, R', c', h1, h2, h3, h4, h5⟩
  rw [hashL_more, restL_more, ← List.length_append] at h1
  rw [restL_more] at h2 h3
  exact ⟨he, R', ⟨c', h1, h2, h3⟩, h4, h5⟩

/-- Write of nobody: nothing. -/
theorem write_nil (A : Option Addr) (n c : Nat) (w : World) :
    Calls Tryd.prog 10 #[.pointer none, .slice A n c] w fun e w' => e = .returned (.tuple #[]) ∧ w = w' := by
  go_enter Tryd.func10, Tryd.ntmps10
  go_wp2
  refine bodyPost_ret (results_none rfl _ _ _) rfl ?_
  exact ⟨rfl, rfl⟩
theorem write_unmade (g : Nat) (A : Option Addr) (n c : Nat) (w : World) (h : w.cell? ⟨g, 10, none⟩ = some (.bool false)) :
    Calls Tryd.prog 10 #[.pointer (some ⟨g, 0, none⟩), .slice A n c] w fun e w' => e = .returned (.tuple #[]) ∧ w = w' := by
  go_enter Tryd.func10, Tryd.ntmps10
  go_wp2
  refine bodyPost_ret (results_none rfl _ _ _) rfl ?_
  exact ⟨rfl, rfl⟩
end Go.Proofs.YtchbnablefoemaaDoor
