/- flumelaw13's begun: the walk (region 2 printed by gen.py, spec be2). -/
import Derived.Test.YtjhnnnklfhbebaaTiB
namespace Go.Proofs.Ytjhnnnklfhbebaa
open Go.RowKit
set_option linter.unusedVariables false
set_option linter.unusedSimpArgs false
/-- A pair of which the first one asks: ahead of what it puts out. -/
def PS.asked (s : TS) (irs : Nat) : PS := ⟨fun i => if i = 0 then s else TS.zero, fun _ => [], fun _ => [], fun _ => [], irs⟩
def askS (iss : Nat) : TS := (({ TS.zero with src := 1, dst := 2, sp := 1000, dp := 80, og := 0, state := 1 } : TS).start iss).syn
theorem ask_dial (iss : Nat) : TS.dial 1 1000 2 80 0 iss = some (askS iss) := by
  unfold TS.dial
  rw [if_neg (by decide +kernel)]
  rfl
def PS.begun (iss irs : Nat) : PS := (PS.asked (askS iss) irs).out
def nilS : Value := .slice none 0 0
def PV.asked (k : Nat) (vp : Value) : PV := ⟨fun i => if i = 0 then some k else none, fun i => if i = 0 then vp else nilS, fun _ => nilS, fun _ => nilS, fun _ => nilS⟩
/-- A new thing beside those that are there. -/
def NewAt (N : Nat → Prop) (l : List Item) (w0 : World) (so : TS) (v : Value) (W : World) : Prop := ∃ k vp, v = ptr (some k) ∧ All N (l ++ [Item.side (some k) so vp]) W ∧ Below w0.heap.size w0 W ∧ ∀ b, (Item.side (some k) so vp).own b → w0.heap.size ≤ b
theorem NewAt.mono (N : Nat → Prop) (l : List Item) (w0 : World) (so : TS) : Mono (NewAt N l w0 so) := fun v w1 w2 h ⟨k, vp, a, b, c, d⟩ => ⟨k, vp, a, b.ext h, c.trans (h.mono c.size), d⟩
theorem bytes_nil (N : Nat → Prop) (w : World) : (Item.bytes nilS []).is N w := ⟨OwnB.nil _ _ _, fun b hb => by cases hb⟩
section
variable {N : Nat → Prop} {w : World} {g : Nat}
theorem asked_all {irs : Nat} {s : TS} {k : Nat} {vp : Value} (h : All N [Item.bk g 53 (pCells (PS.asked s irs) (PV.asked k vp)), Item.side (some k) s vp] w) : All N (pItems g (PS.asked s irs) (PV.asked k vp)) w := by
  have h2 := h.add (Item.side none TS.zero nilS) (Below.refl _ _) (fun b hb => hb.elim) ⟨rfl, rfl⟩
  have h3 := h2.add (Item.row nilS []) (Below.refl _ _) (fun b hb => by cases hb) (row_nil _ _)
  have h4 := h3.add (Item.row nilS []) (Below.refl _ _) (fun b hb => by cases hb) (row_nil _ _)
  have h5 := h4.add (Item.bytes nilS []) (Below.refl _ _) (fun b hb => by cases hb) (bytes_nil _ _)
  have h6 := h5.add (Item.bytes nilS []) (Below.refl _ _) (fun b hb => by cases hb) (bytes_nil _ _)
  have h7 := h6.add (Item.bytes nilS []) (Below.refl _ _) (fun b hb => by cases hb) (bytes_nil _ _)
  exact h7.add (Item.bytes nilS []) (Below.refl _ _) (fun b hb => by cases hb) (bytes_nil _ _)
theorem asked_own {irs : Nat} {s : TS} {k : Nat} {vp : Value} {b : Nat} (h : anyOwn (pItems g (PS.asked s irs) (PV.asked k vp)) b) : b = g ∨ (Item.side (some k) s vp).own b := by
  obtain ⟨i, I, hi, hb⟩ := h
  match i, hi with
  | 0, hi => cases hi; exact .inl hb
  | 1, hi => cases hi; exact .inr hb
  | 2, hi => cases hi; exact hb.elim
  | 3, hi => cases hi; cases hb
  | 4, hi => cases hi; cases hb
  | 5, hi => cases hi; cases hb
  | 6, hi => cases hi; cases hb
  | 7, hi => cases hi; cases hb
  | 8, hi => cases hi; cases hb
set_option maxRecDepth 100000 in
set_option maxHeartbeats 2000000 in
theorem begun_calls (hN : ∀ b, N b → b < w.heap.size) (iss irs : Nat) (hi : iss < 4294967296) :
    Calls Try.prog 22 #[.int .u32 (iss : Int), .int .u32 (irs : Int)] w fun e w' => ∃ g V, e = .returned (.pointer (some ⟨g, 0, none⟩)) ∧ Below w.heap.size w w' ∧ All N (pItems g (PS.begun iss irs) V) w' ∧ (∀ b, anyOwn (pItems g (PS.begun iss irs) V) b → w.heap.size ≤ b) ∧ V.k 1 = none ∧ ∃ k, V.k 0 = some k := by
  have HN := Lib.hid hN
  obtain ⟨g, hg⟩ : ∃ g, w.heap.size = g := ⟨_, rfl⟩
  obtain ⟨s, hs⟩ : ∃ s, askS iss = s := ⟨_, rfl⟩
  have HS := Lib.hid hs
  have HSF : Hid (s.Fine 0 ∧ s.state = 1 ∧ s.pack.length = 1) := Lib.hid (by rw [← hs]; exact TS.dial_fine hi (ask_dial iss))
  have HDI : Hid (TS.dial 1 1000 2 80 0 iss = some s) := Lib.hid (by rw [← hs]; exact ask_dial iss)
  clear hN hs
  go_enter Try.func22, Try.ntmps22
  go_upto_region 2 with fail
  obtain ⟨L7, hL7⟩ : ∃ L7, [Item.bk g 53 [.pointer none, .pointer none, .int .u32 (irs : Int), nilS, nilS, nilS, nilS, nilS, nilS]] = L7 := ⟨_, rfl⟩
  refine name_world (fun W => All N L7 W ∧ Below w.heap.size w W) ⟨by
    rw [← hL7]
    have h := (All.nil HN.out).add (Item.bk w.heap.size 53 [.pointer none, .pointer none, .int .u32 (irs : Int), nilS, nilS, nilS, nilS, nilS, nilS]) (ext_alloc w (.cells #[.pointer none, .pointer none, .int .u32 (irs : Int), nilS, nilS, nilS, nilS, nilS, nilS] 53)) (fun b hb => Nat.le_of_eq hb.symm) ⟨BK.new _ _ _, fun e => by
      rcases e with e | ⟨i, I, hi, _⟩
      · have := HN.out _ e
        omega
      · cases hi⟩
    rw [hg] at h
    exact h, ext_alloc _ _⟩ ?_
  rintro w7 ⟨h7, hb7⟩
  have HL7 := Lib.hid hL7
  have H7 := Lib.hid h7
  have HB7 := Lib.hid hb7
  have HG := Lib.hid hg
  have HDC : Hid (∀ W : World, Below w7.heap.size w7 W → Calls Try.prog 15 #[.int .i64 1, .int .i64 1000, .int .i64 2, .int .i64 80, .int .i64 0, .int .u32 (iss : Int)] W fun e W' => ∃ k vp, e = .returned (ptr (some k)) ∧ All N (L7 ++ [Item.side (some k) s vp]) W' ∧ Below W.heap.size W W' ∧ ∀ b, (Item.side (some k) s vp).own b → W.heap.size ≤ b) := Lib.hid fun W hW => by
    refine (all_dial (H7.out.ext hW) 1 1000 2 80 0 iss hi).mono ?_
    rintro e W' ⟨hb, kb, vp, rfl, ha, ho, hn⟩
    rw [HDI.out] at ha ho hn
    cases kb with
    | none => exact absurd (hn.1 rfl) (by simp)
    | some k => exact ⟨k, vp, rfl, ha, hb, ho⟩
  have HFIN : Hid (∀ (W : World) (k0 : Nat) (v0 : Value), Below w7.heap.size w7 W → All N (L7 ++ [Item.side (some k0) s v0]) W → (∀ b, (Item.side (some k0) s v0).own b → w7.heap.size ≤ b) → ∃ k vp, All N [Item.bk g 53 (pCells (PS.asked s irs) (PV.asked k vp)), Item.side (some k) s vp] (W.setCell ⟨g, 0, none⟩ (.pointer (some ⟨k0, 0, none⟩))) ∧ Below w.heap.size w (W.setCell ⟨g, 0, none⟩ (.pointer (some ⟨k0, 0, none⟩))) ∧ ∀ b, (Item.side (some k) s vp).own b → w.heap.size ≤ b) := Lib.hid fun W k vp hW ha ho => by
    rw [← HL7.out] at ha
    have hbk : ([Item.bk g 53 [.pointer none, .pointer none, .int .u32 (irs : Int), nilS, nilS, nilS, nilS, nilS, nilS]] ++ [Item.side (some k) s vp])[0]? = some (Item.bk g 53 [.pointer none, .pointer none, .int .u32 (irs : Int), nilS, nilS, nilS, nilS, nilS, nilS]) := rfl
    refine ⟨k, vp, ha.setBk hbk 0 (.pointer (some ⟨k, 0, none⟩)), ?_, fun b hb => Nat.le_trans HB7.out.size (ho b hb)⟩
    exact (bk_only (w := W) (g := g) (o := 0) (v := .pointer (some ⟨k, 0, none⟩))).below (HB7.out.trans (hW.mono HB7.out.size)) (Nat.le_trans HB7.out.size hW.size) (fun b hb => Nat.le_of_eq (HG.out.trans hb.symm))
  clear hL7 h7 hb7 hg
  refine wp_region_fin [[], [], [1], [0], [0, 3], [0, 1, 2, 3, 4], [0, 1, 2, 3, 4, 5]]
    [fun u _ => u = .pointer (some ⟨g, 0, none⟩),
     fun u _ => u = .int .u32 (iss : Int),
     fun u w => NewAt N L7 w7 s u w,
     fun u _ => u = .pointer (some ⟨g, 0, none⟩),
     fun u _ => u = .pointer (some ⟨g, 0, none⟩),
     fun u _ => u = .pointer (some ⟨g, 0, none⟩)]
    (fun u => ⟨#[Value.int IntKind.u32 (iss : Int), Value.int IntKind.u32 (irs : Int), undef, undef, Value.pointer none, Value.pointer (some { block := g, off := 0 }), Value.int IntKind.u32 (irs : Int), Value.agg #[Value.pointer none, Value.pointer none, Value.int IntKind.u32 (irs : Int), Value.slice none 0 0, Value.slice none 0 0, Value.slice none 0 0, Value.slice none 0 0, Value.slice none 0 0, Value.slice none 0 0], Value.pointer (some { block := g, off := 0 }), u 0, u 1, u 2, u 3, u 4, u 5, undef, undef, undef], []⟩)
    (fun W => Below w7.heap.size w7 W) (fun _ => True) none 2 6 (fun _ W => ∃ k vp, All N [Item.bk g 53 (pCells (PS.asked s irs) (PV.asked k vp)), Item.side (some k) s vp] W ∧ Below w.heap.size w W ∧ ∀ b, (Item.side (some k) s vp).own b → w.heap.size ≤ b) (fun j => [undef, undef, undef, undef, undef, undef, undef].getD j undef) (by kernel_rfl) (by kernel_rfl) (by kernel_rfl) rfl (by kernel_rfl) (Nat.le_of_eq rfl) ⟨Mono.eq _, Mono.eq _, NewAt.mono _ _ _ _, Mono.eq _, Mono.eq _, Mono.eq _, trivial⟩ ⟨.inr (.inr (MonoRow.eq _ _)), ⟨.inr (.inr (MonoRow.eq _ _)), ⟨.inl rfl, ⟨.inr (.inr (MonoRow.eq _ _)), ⟨.inr (.inr (MonoRow.eq _ _)), ⟨.inr (.inr (MonoRow.eq _ _)), trivial⟩⟩⟩⟩⟩⟩
    (fun _ _ _ h => h) (fun _ _ _ h => h) ((Below.refl _ _).drew) (trivial) ?_ ?_
  · refine ⟨?_, ?_, ?_, ?_, ?_, ?_, ?_, trivial⟩
    · intro u w2 hb hS hG hF hU J K hJ hK
      have HB2 := Lib.hid hb
      have HS2 := Lib.hid hS
      have HG2 := Lib.hid hG
      have HF := Lib.hid hF
      clear hb hF hS hG hU
      go_wp2
      exact hJ _ _ _ (Nat.le_refl _) (fun _ => ⟨HB2.out, fun _ => Below.refl _ _, fun h => absurd h (by decide), rfl⟩) (fun h => absurd h (by decide)) (by simp [setU] <;> omega)
    · intro u w2 hb hS hG hF hU J K hJ hK
      have HB2 := Lib.hid hb
      have HS2 := Lib.hid hS
      have HG2 := Lib.hid hG
      have HF := Lib.hid hF
      clear hb hF hS hG hU
      go_wp2
      exact hJ _ _ _ (Nat.le_refl _) (fun _ => ⟨HB2.out, fun _ => Below.refl _ _, fun h => absurd h (by decide), rfl⟩) (fun h => absurd h (by decide)) (by simp [setU] <;> omega)
    · intro u w2 hb hS hG hF hU J K hJ hK
      have HB2 := Lib.hid hb
      have HS2 := Lib.hid hS
      have HG2 := Lib.hid hG
      have HF := Lib.hid hF
      clear hb hF hS hG hU
      have f1 : u 1 = .int .u32 (iss : Int) := HF.out 1 (by decide)
      go_wp2_with (go_at_call 15; refine (HDC.out w2 HB2.out).mono ?_; rintro e w3 ⟨k, vp, rfl, ha, hb, ho⟩)
      have HA3 := Lib.hid (show _ ∧ _ from ⟨ha, ho⟩); have HB3 := Lib.hid hb; clear ha hb ho
      exact hJ _ _ _ (HB3.out.size) (fun _ => ⟨HB2.out.trans (HB3.out.mono HB2.out.size), fun h => absurd rfl h, fun _ => grown_of_below HB3.out _, ⟨k, vp, rfl, HA3.out.1, HB2.out.trans (HB3.out.mono HB2.out.size), fun b hb => Nat.le_trans HB2.out.size (HA3.out.2 b hb)⟩⟩) (fun h => absurd h (by decide)) (by simp [setU, f1] <;> omega)
    · intro u w2 hb hS hG hF hU J K hJ hK
      have HB2 := Lib.hid hb
      have HS2 := Lib.hid hS
      have HG2 := Lib.hid hG
      have HF := Lib.hid hF
      clear hb hF hS hG hU
      have f0 : u 0 = .pointer (some ⟨g, 0, none⟩) := HF.out 0 (by decide)
      go_wp2
      exact hJ _ _ _ (Nat.le_refl _) (fun _ => ⟨HB2.out, fun _ => Below.refl _ _, fun h => absurd h (by decide), rfl⟩) (fun h => absurd h (by decide)) (by simp [setU, f0] <;> omega)
    · intro u w2 hb hS hG hF hU J K hJ hK
      have HB2 := Lib.hid hb
      have HS2 := Lib.hid hS
      have HG2 := Lib.hid hG
      have HF := Lib.hid hF
      clear hb hF hS hG hU
      have f3 : u 3 = .pointer (some ⟨g, 0, none⟩) := HF.out 3 (by decide)
      go_wp2
      exact hJ _ _ _ (Nat.le_refl _) (fun _ => ⟨HB2.out, fun _ => Below.refl _ _, fun h => absurd h (by decide), rfl⟩) (fun h => absurd h (by decide)) (by simp [setU, f3] <;> omega)
    · intro u w2 hb hS hG hF hU J K hJ hK
      have HB2 := Lib.hid hb
      have HS2 := Lib.hid hS
      have HG2 := Lib.hid hG
      have HF := Lib.hid hF
      clear hb hF hS hG hU
      have f4 : u 4 = .pointer (some ⟨g, 0, none⟩) := HF.out 4 (by decide)
      go_wp2
      exact hJ _ _ _ (Nat.le_refl _) (fun _ => ⟨HB2.out, fun _ => Below.refl _ _, fun h => absurd h (by decide), rfl⟩) (fun h => absurd h (by decide)) (by simp [setU, f4] <;> omega)
    · intro u w2 hb hS hG hF hU J K hJ hK
      have HB2 := Lib.hid hb
      have HS2 := Lib.hid hS
      have HG2 := Lib.hid hG
      have HF := Lib.hid hF
      clear hb hF hS hG hU
      have f5 : u 5 = .pointer (some ⟨g, 0, none⟩) := HF.out 5 (by decide)
      obtain ⟨k, vp, f2, ha, hb, ho⟩ := HF.out 2 (by decide)
      have HA := Lib.hid ha
      have hk7 := (ha.get 0 (show (L7 ++ [Item.side (some k) s vp])[0]? = some (Item.bk g 53 [.pointer none, .pointer none, .int .u32 (irs : Int), nilS, nilS, nilS, nilS, nilS, nilS]) by rw [← HL7.out]; rfl)).1
      have cc : w2.cell? ⟨g, 0, none⟩ = some (.pointer none) := hk7.cell rfl
      have ff := hk7.frozen 0
      have HO := Lib.hid ho
      have f2 : u 2 = .pointer (some ⟨k, 0, none⟩) := f2
      clear ha hb ho hk7
      dsimp only
      rw [f2, f5]
      go_wp2
      exact hJ undef _ _ ((by simp [World.setCell])) (fun h => absurd rfl h) (fun _ => HFIN.out w2 k vp HB2.out HA.out HO.out) (by simp [setU, f2, f5] <;> omega)
  · intro u w2 hS hFL
    have HS2 := Lib.hid hS
    have HFL := Lib.hid hFL
    clear hS hFL
    obtain ⟨k, vp, ha, hb, ho⟩ := HFL.out
    have HA := Lib.hid ha
    have HBB := Lib.hid hb
    have HO := Lib.hid ho
    clear HFL ha hb ho
    try dsimp only
    have HAL : Hid (All N (pItems g (PS.asked s irs) (PV.asked k vp)) w2) := Lib.hid (asked_all HA.out)
    have HOC := Lib.hid (pout_calls HAL.out (fun i hi => Nat.zero_le 300) (fun i hi => by
      have := HSF.out.2.2
      show (if i = 0 then s else TS.zero).pack.length ≤ 1000000
      split
      · omega
      · exact Nat.zero_le _))
    go_wp2_with fail
    refine HOC.out.mono ?_
    rintro e w5 ⟨rfl, V5, hg5, hk5⟩
    have HG5 := Lib.hid hg5
    have HK5 := Lib.hid hk5
    clear hg5 hk5 HOC
    go_wp2_with fail
    go_ret
    have ho2 : ∀ b, anyOwn (pItems g (PS.asked s irs) (PV.asked k vp)) b → w.heap.size ≤ b := fun b hb => (asked_own hb).elim (fun e => Nat.le_of_eq (HG.out.trans e.symm)) (HO.out b)
    refine ⟨g, V5, rfl, HG5.out.only.below HBB.out HBB.out.size ho2, ?_, fun b hb => ?_, ?_, k, ?_⟩
    · rw [show PS.begun iss irs = (PS.asked s irs).out by unfold PS.begun; rw [HS.out]]
      exact HG5.out.all
    · rw [show PS.begun iss irs = (PS.asked s irs).out by unfold PS.begun; rw [HS.out]] at hb
      exact (HG5.out.own b hb).elim (ho2 b) (Nat.le_trans HBB.out.size)
    · rw [HK5.out]
      rfl
    · rw [HK5.out]
      rfl
end
end Go.Proofs.Ytjhnnnklfhbebaa

