/- The walk of flumeref04's Put. -/
import Derived.Test.YtobkelpeenckeaaPkJ
import Derived.Test.YtobkelpeenckeaaPkN
import Derived.Test.YtobkelpeenckeaaPkO
import Derived.Test.YtobkelpeenckeaaOwnR
import Derived.Test.YtobkelpeenckeaaInetR
import Derived.Deep.DeepCutAuto
namespace Go.Proofs.Ytobkelpeenckeaa
open Go.RowKit
set_option linter.unusedVariables false
set_option linter.unusedSimpArgs false

/-- A slice of the call's own. -/
def OwnV (B : Nat) (l : List UInt8) (m : Nat) (v : Value) (w : World) : Prop := ∃ A c, v = .slice A m c ∧ l.length = m ∧ OwnB B 5 w (.slice A m c) l
theorem OwnV.mono (B : Nat) (l : List UInt8) (m : Nat) : Mono (OwnV B l m) := fun v w1 w2 h ⟨A, c, e, hl, ho⟩ => ⟨A, c, e, hl, ho.ext h⟩
theorem OwnV.of {B : Nat} {l : List UInt8} {m : Nat} {v : Value} {w : World} (h : OwnB B 5 w v l) (hm : l.length = m) : OwnV B l m v w := by
  obtain ⟨A, c, e, _, _, _⟩ := h.form
  subst hm
  exact ⟨A, c, e, rfl, e ▸ h⟩
theorem OwnV.monoRow {S : Nat} (l : List UInt8) (m : Nat) {row : Option Nat} (hr : ∀ g, row = some g → g < S) : MonoRow row (OwnV S l m) := fun v w1 w2 h ⟨A, c, e, hl, ho⟩ =>
  ⟨A, c, e, hl, ho.other h (by
    cases hb : (Value.slice A m c).ownBlock with
    | none => exact .inl rfl
    | some g => exact .inr fun e => by have := (ho.blockLt g hb).1; have := hr g e.symm; omega)⟩
theorem OwnV.get {B : Nat} {l : List UInt8} {m : Nat} {v : Value} {w : World} (h : OwnV B l m v w) : ∃ A c, v = .slice A m c ∧ l.length = m ∧ RB w A l ∧ OwnB B 5 w (.slice A m c) l ∧ m ≤ c := by
  obtain ⟨A, c, e, hl, ho⟩ := h
  obtain ⟨A', c', e', hr, hc, _⟩ := ho.form
  injection e' with ea eb ec
  subst ea ec
  exact ⟨A, c, e, hl, hr, ho, by omega⟩
theorem OwnV.base {B B' : Nat} {l : List UInt8} {m : Nat} {v : Value} {w : World} (h : OwnV B l m v w) (hb : B' ≤ B) : OwnV B' l m v w :=
  have ⟨A, c, e, hl, ho⟩ := h
  ⟨A, c, e, hl, ho.mono hb⟩

set_option maxRecDepth 100000 in
set_option maxHeartbeats 4000000 in
theorem rput_ok (s d sp dp seq ack fl wn pr og : Nat) (data : List UInt8) (A : Option Addr) (n c : Nat) (hn : data.length = n) (w : World) (h : RB w A data) (hnc : n ≤ c)
    (hs : 1 ≤ s ∧ s ≤ 4) (hd : 1 ≤ d ∧ d ≤ 4) (hsd : s ≠ d) (hsp : 1 ≤ sp ∧ sp ≤ 65535) (hdp : 1 ≤ dp ∧ dp ≤ 65535) (hseq : seq < 4294967296) (hack : ack < 4294967296) (hfl : fl ≤ 15) (hwn : wn ≤ 65535) (hpr : pr ≤ 1099511627776) (hog : og ≤ 65535) (hn128 : n ≤ 128) :
    Calls Try.prog 25 #[.agg #[.int .i64 (s : Int), .int .i64 (d : Int), .int .i64 (sp : Int), .int .i64 (dp : Int), .int .u32 (seq : Int), .int .u32 (ack : Int), .int .i64 (fl : Int), .int .i64 (wn : Int), .int .i64 (pr : Int), .int .i64 (og : Int), .slice A n c]] w fun e w' =>
      ∃ R m cR, e = .returned (.tuple #[.slice R m cR, .int .i64 0]) ∧ m = (putL s d sp dp seq ack fl wn pr og data).length ∧ OwnB w.heap.size 5 w' (.slice R m cR) (putL s d sp dp seq ack fl wn pr og data) ∧ Below w.heap.size w w' := by
  have H := Lib.hid h
  have HN := Lib.hid hn
  have HC : Hid (∀ W : World, Calls Try.prog 27 #[.agg #[.int .i64 (s : Int), .int .i64 (d : Int), .int .i64 (sp : Int), .int .i64 (dp : Int), .int .u32 (seq : Int), .int .u32 (ack : Int), .int .i64 (fl : Int), .int .i64 (wn : Int), .int .i64 (pr : Int), .int .i64 (og : Int), .slice A n c]] W fun e w' => e = .returned (.int .i64 0) ∧ Below W.heap.size W w') := Lib.hid fun W => by
    have := rcheck_n ⟨s, d, sp, dp, seq, ack, fl, wn, pr, og, data⟩ A n c (by omega) W
    rw [show okN ⟨s, d, sp, dp, seq, ack, fl, wn, pr, og, data⟩ n = true by unfold okN; dsimp only; simp <;> omega] at this
    exact this
  obtain ⟨cs, hcs⟩ : ∃ cs : List Value, [.int .i64 (s : Int), .int .i64 (d : Int), .int .i64 (sp : Int), .int .i64 (dp : Int), .int .u32 (seq : Int), .int .u32 (ack : Int), .int .i64 (fl : Int), .int .i64 (wn : Int), .int .i64 (pr : Int), .int .i64 (og : Int), .slice A n c] = cs := ⟨_, rfl⟩
  have HCS := Lib.hid hcs
  clear h hn hcs
  go_enter Try.func25, Try.ntmps25
  go_wp2_with fail
  refine (HC.out _).mono ?_
  rintro e w1 ⟨rfl, hb⟩
  have HK := Lib.hid ((BK.new w 25 cs).ext (by rw [← HCS.out]; exact hb))
  have HB := Lib.hid (ext_trans (ext_alloc w _) hb)
  clear hb
  obtain ⟨k, hk⟩ : ∃ k, w.heap.size = k := ⟨_, rfl⟩
  rw [hk] at HK HB ⊢
  have HKK := Lib.hid hk
  have hk1 : k < w1.heap.size := HK.out.lt
  clear hk
  have HKK1 : Hid (∀ W : World, Below (k + 1) w1 W → BK W k 25 cs) := Lib.hid fun W h => (h.block k (by omega)).trans HK.out
  have HB1 : Hid (Below (k + 1) w1 w1) := Lib.hid (Below.refl _ _)
  have c8 : w1.cell? ⟨k, 8, none⟩ = some (.int .i64 (pr : Int)) := HK.out.cell (by rw [← HCS.out]; rfl)
  go_upto_if 14 with fail
  go_cut [4] from 15 to 21 (fun v wc => Hid (OwnV (k + 1) (prL pr) (if 0 < pr then 10 else 0) v wc) ∧ Hid (Below (k + 1) w1 wc))
  case first =>
    by_cases hp0 : pr = 0
    · subst hp0
      go_wp2_with fail
      go_meet
      case rel => exact ⟨Lib.hid (OwnV.of (OwnB.nil _ _ _) rfl), HB1⟩
    · have hp0' : ((pr : Int) == 0) = false := beq_eq_false_iff_ne.2 (by omega)
      have hp1' : ((pr : Int) != 0) = true := by simp; omega
      go_upto_region 5 with fail
      have HOLD : Hid (OwnB (k + 1) 5 w1 (.slice none 0 0) []) := Lib.hid (OwnB.nil _ _ _)
      have HOLDL : Hid (([] : List UInt8).length = 0) := Lib.hid rfl
      have HROW : Hid (∀ g, (.slice none 0 0 : Value).ownBlock = some g → g < w1.heap.size) := Lib.hid fun g h => by cases h
      have HKB : Hid (∀ W : World, Below (k + 1) w1 W → W.cell? ⟨k, 8, none⟩ = some (.int .i64 (pr : Int))) := Lib.hid fun W h => (HKK1.out W h).cell (by rw [← HCS.out]; rfl)
      have HPL : Hid (prL pr = [] ++ [1, 10] ++ be pr 8) := Lib.hid (by unfold prL; rw [if_pos (by omega)]; rfl)
      have HPLL : Hid ((prL pr).length = 10) := Lib.hid (by rw [prL_length, if_pos (by omega)])
      refine wp_region_own [[], [], [0, 1], [], [3], [0, 1, 2, 3, 4], [0, 1, 2, 3, 4, 5], [0, 1, 2, 3, 4, 5, 6]]
        [fun u _ => u = .slice none 0 0,
         fun u w => OwnV w1.heap.size [1, 10] 2 u w,
         fun u w => OwnV (k + 1) ([] ++ [1, 10]) (0 + 2) u w,
         fun u _ => u = .pointer (some ⟨k, 8, none⟩),
         fun u _ => u = .int .i64 (pr : Int),
         fun u w => OwnV w1.heap.size (be pr 8) 8 u w,
         fun u w => OwnV (k + 1) (prL pr) 10 u w,
         fun u w => OwnV (k + 1) (prL pr) 10 u w]
        (fun u => ⟨#[Value.agg #[Value.int IntKind.i64 (s : Int), Value.int IntKind.i64 (d : Int), Value.int IntKind.i64 (sp : Int), Value.int IntKind.i64 (dp : Int), Value.int IntKind.u32 (seq : Int), Value.int IntKind.u32 (ack : Int), Value.int IntKind.i64 (fl : Int), Value.int IntKind.i64 (wn : Int), Value.int IntKind.i64 (pr : Int), Value.int IntKind.i64 (og : Int), Value.slice A n c], Value.pointer (some { block := k, off := 0 }), Value.slice none 0 0, Value.int IntKind.i64 0, u 7, undef, undef, undef, undef, Value.agg #[Value.int IntKind.i64 (s : Int), Value.int IntKind.i64 (d : Int), Value.int IntKind.i64 (sp : Int), Value.int IntKind.i64 (dp : Int), Value.int IntKind.u32 (seq : Int), Value.int IntKind.u32 (ack : Int), Value.int IntKind.i64 (fl : Int), Value.int IntKind.i64 (wn : Int), Value.int IntKind.i64 (pr : Int), Value.int IntKind.i64 (og : Int), Value.slice A n c], Value.int IntKind.i64 0, Value.bool false, Value.pointer (some { block := k, off := 8 }), Value.int IntKind.i64 (pr : Int), Value.bool ((pr : Int) != 0), u 0, u 1, u 2, u 3, u 4, u 5, u 6, undef, undef, undef, undef, undef, undef, undef, undef, undef, undef, undef, undef, undef, undef, undef, undef, undef, undef, undef, undef, undef, undef, undef, undef, undef, undef, undef, undef, undef, undef, undef, undef, undef, undef, undef, undef, undef, undef, undef, undef, undef, undef, undef, undef, undef, undef, undef, undef, undef, undef, undef, undef, undef, undef, undef, undef, undef, undef, undef, undef, undef, undef, undef, undef, undef, undef, undef, undef, undef, undef, undef, undef, undef, undef], []⟩)
        (k + 1) w1 (fun W => OwnB (k + 1) 5 W (.slice none 0 0) ([])) (.slice none 0 0 : Value).ownBlock 2 6 (fun j => [undef, undef, undef, undef, undef, undef, undef, Value.slice none 0 0].getD j undef) (by kernel_rfl) (by kernel_rfl) (by kernel_rfl) rfl (by kernel_rfl) (Nat.le_of_eq rfl) ⟨Mono.eq _, OwnV.mono _ _ _, OwnV.mono _ _ _, Mono.eq _, Mono.eq _, OwnV.mono _ _ _, OwnV.mono _ _ _, OwnV.mono _ _ _, trivial⟩ ⟨.inr (.inr (MonoRow.eq _ _)), ⟨.inr (.inr (OwnV.monoRow _ _ HROW.out)), ⟨.inl rfl, ⟨.inr (.inr (MonoRow.eq _ _)), ⟨.inr (.inr (MonoRow.eq _ _)), ⟨.inr (.inr (OwnV.monoRow _ _ HROW.out)), ⟨.inr (.inl (by decide)), ⟨.inr (.inl (by decide)), trivial⟩⟩⟩⟩⟩⟩⟩⟩
        (fun _ _ h1 h2 => h2.ext h1) (HB1.out) (HOLD.out) ?_ ?_
      · refine ⟨?_, ?_, ?_, ?_, ?_, ?_, ?_, ?_, trivial⟩
        · intro u w2 hb hS hG hF hU J K hJ hK
          have HB2 := Lib.hid hb
          have HS2 := Lib.hid hS
          have HG2 := Lib.hid hG
          have HF := Lib.hid hF
          have g7 : u 7 = Value.slice none 0 0 := hU 7 (by decide)
          clear hb hF hS hG hU
          go_wp2
          exact hJ _ _ _ (⟨fun _ => Below.refl _ _, fun h => absurd h (by decide), HB2.out, Nat.le_refl _⟩) (rfl) (by simp [setU, g7] <;> omega)
        · intro u w2 hb hS hG hF hU J K hJ hK
          have HB2 := Lib.hid hb
          have HS2 := Lib.hid hS
          have HG2 := Lib.hid hG
          have HF := Lib.hid hF
          clear hb hF hS hG hU
          have hq := HS2.out
          have hq1 : k + 1 ≤ w2.heap.size := by omega
          go_wp2
          exact hJ _ _ _ (⟨fun _ => ext_alloc _ _, fun h => absurd h (by decide), HB2.out.alloc hq1 _, by simp⟩) (OwnV.of (OwnB.lit' w1.heap.size 5 w2 [1, 10] w2.heap.size 2 HS2.out (by decide) rfl rfl) rfl) (by simp [setU] <;> omega)
        · intro u w2 hb hS hG hF hU J K hJ hK
          have HB2 := Lib.hid hb
          have HS2 := Lib.hid hS
          have HG2 := Lib.hid hG
          have HF := Lib.hid hF
          clear hb hF hS hG hU
          have f0 : u 0 = .slice none 0 0 := HF.out 0 (by decide) (.inl (by decide))
          obtain ⟨A1, c1, f1, hl1, hr1, ho1, hc1⟩ := (HF.out 1 (by decide) (.inl (by decide))).get
          have HR1 := Lib.hid hr1; have HO1 := Lib.hid ho1; have HL1 := Lib.hid hl1; clear hr1 ho1 hl1
          have hq := HS2.out
          have hq1 : k + 1 ≤ w2.heap.size := by omega
          have HGO := Lib.hid (HG2.out (by decide))
          dsimp only
          rw [f0, f1]
          go_wp2_with ((with_reducible refine (?_ : wpList _ _ _ (_ :: _) _ _)); at_builtin; refine wpList_appB rfl _ _ 23 rfl (k + 1) 5 Try.underlying23 infoB _ ([]) rfl HGO.out _ _ _ ([1, 10]) rfl rfl HR1.out (by simp [HOLDL.out] <;> omega) hq1 ?_)
          intro v3 w3 ho hg _
          have hz := hg.size
          have HO3 := Lib.hid ho; have HG3 := Lib.hid hg; clear ho hg
          go_wp2
          exact hJ _ _ _ (⟨fun h => absurd rfl h.1, fun _ => HG3.out, HGO.out.below HB2.out HG3.out hq1, hz⟩) (OwnV.of HO3.out (by simp [HOLDL.out])) (by simp [setU, f0, f1] <;> omega)
        · intro u w2 hb hS hG hF hU J K hJ hK
          have HB2 := Lib.hid hb
          have HS2 := Lib.hid hS
          have HG2 := Lib.hid hG
          have HF := Lib.hid hF
          clear hb hF hS hG hU
          go_wp2
          exact hJ _ _ _ (⟨fun _ => Below.refl _ _, fun h => absurd h (by decide), HB2.out, Nat.le_refl _⟩) (rfl) (by simp [setU] <;> omega)
        · intro u w2 hb hS hG hF hU J K hJ hK
          have HB2 := Lib.hid hb
          have HS2 := Lib.hid hS
          have HG2 := Lib.hid hG
          have HF := Lib.hid hF
          clear hb hF hS hG hU
          have f3 : u 3 = .pointer (some ⟨k, 8, none⟩) := HF.out 3 (by decide) (.inl (by decide))
          have c8 : w2.cell? ⟨k, 8, none⟩ = some (.int .i64 (pr : Int)) := (HKB.out w2 HB2.out)
          go_wp2
          exact hJ _ _ _ (⟨fun _ => Below.refl _ _, fun h => absurd h (by decide), HB2.out, Nat.le_refl _⟩) (rfl) (by simp [setU, f3] <;> omega)
        · intro u w2 hb hS hG hF hU J K hJ hK
          have HB2 := Lib.hid hb
          have HS2 := Lib.hid hS
          have HG2 := Lib.hid hG
          have HF := Lib.hid hF
          clear hb hF hS hG hU
          have f4 : u 4 = .int .i64 (pr : Int) := HF.out 4 (by decide) (.inl (by decide))
          have hq := HS2.out
          have hq1 : k + 1 ≤ w2.heap.size := by omega
          go_wp2_with (go_at_call 43; refine (big_n pr 8 (by omega) (by omega) _).mono ?_; rintro e w3 ⟨R, d, rfl, ho, hb⟩)
          have HO3 := Lib.hid ho; have HB3 := Lib.hid hb; clear ho hb
          exact hJ _ _ _ (⟨fun _ => HB3.out, fun h => absurd h (by decide), HB2.out.trans (HB3.out.mono hq1), HB3.out.size⟩) (OwnV.base (OwnV.of HO3.out (be_length _ _)) HS2.out) (by simp [setU, f4] <;> omega)
        · intro u w2 hb hS hG hF hU J K hJ hK
          have HB2 := Lib.hid hb
          have HS2 := Lib.hid hS
          have HG2 := Lib.hid hG
          have HF := Lib.hid hF
          clear hb hF hS hG hU
          obtain ⟨A2, c2, f2, hl2, hr2, ho2, hc2⟩ := (HF.out 2 (by decide) (.inl (by decide))).get
          obtain ⟨A5, c5, f5, hl5, hr5, ho5, hc5⟩ := (HF.out 5 (by decide) (.inl (by decide))).get
          have HR2 := Lib.hid hr2; have HO2 := Lib.hid ho2; have HL2 := Lib.hid hl2; clear hr2 ho2 hl2
          have HR5 := Lib.hid hr5; have HO5 := Lib.hid ho5; have HL5 := Lib.hid hl5; clear hr5 ho5 hl5
          have hq := HS2.out
          have hq1 : k + 1 ≤ w2.heap.size := by omega
          dsimp only
          rw [f2, f5]
          go_wp2_with ((with_reducible refine (?_ : wpList _ _ _ (_ :: _) _ _)); at_builtin; refine wpList_appB rfl _ _ 23 rfl (k + 1) 5 Try.underlying23 infoB _ ([] ++ [1, 10]) rfl HO2.out _ _ _ (be pr 8) rfl (be_length _ _) HR5.out (by simp [be_length, HOLDL.out] <;> omega) hq1 ?_)
          intro v3 w3 ho hg _
          have hz := hg.size
          have HO3 := Lib.hid ho; have HG3 := Lib.hid hg; clear ho hg
          go_wp2
          exact hJ _ _ _ (⟨fun h => absurd rfl h.2, fun h => absurd h (by decide), HO2.out.below HB2.out HG3.out hq1, hz⟩) (OwnV.of (show OwnB (k + 1) 5 w3 v3 (prL pr) by rw [HPL.out]; first | exact HO3.out | simpa using HO3.out) HPLL.out) (by simp [setU, f2, f5] <;> omega)
        · intro u w2 hb hS hG hF hU J K hJ hK
          have HB2 := Lib.hid hb
          have HS2 := Lib.hid hS
          have HG2 := Lib.hid hG
          have HF := Lib.hid hF
          clear hb hF hS hG hU
          go_wp2
          exact hJ (u 6) _ _ (⟨fun _ => Below.refl _ _, fun h => absurd h (by decide), HB2.out, Nat.le_refl _⟩) (HF.out 6 (by decide) (.inr (by decide))) (by simp [setU] <;> omega)
      · intro u w2 hb hS hF
        have HB2 := Lib.hid hb
        have HS2 := Lib.hid hS
        have f7 := hF 7 (by decide) (by decide)
        clear hb hF hS
        have HF7 : Hid (OwnV (k + 1) (prL pr) 10 (u 7) w2) := Lib.hid f7
        clear f7
        dsimp only
        go_wp2_with fail
        go_meet
        case rel => exact ⟨Lib.hid (by rw [if_pos (by omega)]; exact HF7.out), HB2⟩
  case rest =>
    clear c8
    obtain ⟨HOV, HBC⟩ := hcut
    obtain ⟨m4, hm4⟩ : ∃ m : Nat, (if 0 < pr then 10 else 0) = m := ⟨_, rfl⟩
    have hm4' : m4 ≤ 10 := by rw [← hm4]; split <;> omega
    rw [hm4] at HOV
    obtain ⟨A4, c4, rfl, hl4, hr4, ho4, hc4⟩ := HOV.out.get
    have HOLD := Lib.hid ho4
    have HOLDL := Lib.hid hl4
    have HROW : Hid (∀ g, (.slice A4 m4 c4 : Value).ownBlock = some g → g < wc.heap.size) := Lib.hid fun g h => (HOLD.out.blockLt g h).2
    have hsc := HBC.out.size
    have HB1 := HBC
    have HM4 := Lib.hid hm4
    clear HOV hl4 hr4 ho4 hm4 hc4 HBC
    have c9 : wc.cell? ⟨k, 9, none⟩ = some (.int .i64 (og : Int)) := (HKK1.out wc HB1.out).cell (by rw [← HCS.out]; rfl)
    go_upto_if 24 with fail
    go_cut [4] from 25 to 31 (fun v w3 => Hid (∃ m, OwnV (k + 1) (optL pr og) m v w3) ∧ Hid (Below (k + 1) w1 w3))
    case first =>
      by_cases hp0 : og = 0
      · subst hp0
        go_wp2_with fail
        go_meet
        case rel => exact ⟨Lib.hid ⟨m4, by unfold optL ogL; rw [if_neg (by omega), List.append_nil]; exact OwnV.of HOLD.out HOLDL.out⟩, HB1⟩
      · have hp0' : ((og : Int) == 0) = false := beq_eq_false_iff_ne.2 (by omega)
        have hp1' : ((og : Int) != 0) = true := by simp; omega
        go_upto_region 7 with fail
        have HKB : Hid (∀ W : World, Below (k + 1) w1 W → W.cell? ⟨k, 9, none⟩ = some (.int .i64 (og : Int))) := Lib.hid fun W h => (HKK1.out W h).cell (by rw [← HCS.out]; rfl)
        have HPL : Hid (optL pr og = prL pr ++ [2, 4] ++ be og 2) := Lib.hid (by unfold optL ogL; rw [if_pos (by omega)]; simp)
        have HPLL : Hid ((optL pr og).length = m4 + 4) := Lib.hid (by rw [HPL.out]; simp [be_length, HOLDL.out])
        refine wp_region_own [[], [], [0, 1], [], [3], [0, 1, 2, 3, 4], [0, 1, 2, 3, 4, 5], [0, 1, 2, 3, 4, 5, 6]]
          [fun u _ => u = .slice A4 m4 c4,
           fun u w => OwnV wc.heap.size [2, 4] 2 u w,
           fun u w => OwnV (k + 1) (prL pr ++ [2, 4]) (m4 + 2) u w,
           fun u _ => u = .pointer (some ⟨k, 9, none⟩),
           fun u _ => u = .int .i64 (og : Int),
           fun u w => OwnV wc.heap.size (be og 2) 2 u w,
           fun u w => OwnV (k + 1) (optL pr og) (m4 + 4) u w,
           fun u w => OwnV (k + 1) (optL pr og) (m4 + 4) u w]
          (fun u => ⟨#[Value.agg #[Value.int IntKind.i64 (s : Int), Value.int IntKind.i64 (d : Int), Value.int IntKind.i64 (sp : Int), Value.int IntKind.i64 (dp : Int), Value.int IntKind.u32 (seq : Int), Value.int IntKind.u32 (ack : Int), Value.int IntKind.i64 (fl : Int), Value.int IntKind.i64 (wn : Int), Value.int IntKind.i64 (pr : Int), Value.int IntKind.i64 (og : Int), Value.slice A n c], Value.pointer (some { block := k, off := 0 }), Value.slice none 0 0, Value.int IntKind.i64 0, u 7, undef, undef, undef, undef, Value.agg #[Value.int IntKind.i64 (s : Int), Value.int IntKind.i64 (d : Int), Value.int IntKind.i64 (sp : Int), Value.int IntKind.i64 (dp : Int), Value.int IntKind.u32 (seq : Int), Value.int IntKind.u32 (ack : Int), Value.int IntKind.i64 (fl : Int), Value.int IntKind.i64 (wn : Int), Value.int IntKind.i64 (pr : Int), Value.int IntKind.i64 (og : Int), Value.slice A n c], Value.int IntKind.i64 0, Value.bool false, Value.pointer (some { block := k, off := 8 }), Value.int IntKind.i64 (pr : Int), Value.bool ((pr : Int) != 0), u15, u16, u17, u18, u19, u20, u21, Value.pointer (some { block := k, off := 9 }), Value.int IntKind.i64 (og : Int), Value.bool ((og : Int) != 0), u 0, u 1, u 2, u 3, u 4, u 5, u 6, undef, undef, undef, undef, undef, undef, undef, undef, undef, undef, undef, undef, undef, undef, undef, undef, undef, undef, undef, undef, undef, undef, undef, undef, undef, undef, undef, undef, undef, undef, undef, undef, undef, undef, undef, undef, undef, undef, undef, undef, undef, undef, undef, undef, undef, undef, undef, undef, undef, undef, undef, undef, undef, undef, undef, undef, undef, undef, undef, undef, undef, undef, undef, undef], []⟩)
          (k + 1) w1 (fun W => OwnB (k + 1) 5 W (.slice A4 m4 c4) (prL pr)) (.slice A4 m4 c4 : Value).ownBlock 2 6 (fun j => [undef, undef, undef, undef, undef, undef, undef, Value.slice A4 m4 c4].getD j undef) (by kernel_rfl) (by kernel_rfl) (by kernel_rfl) rfl (by kernel_rfl) (Nat.le_of_eq rfl) ⟨Mono.eq _, OwnV.mono _ _ _, OwnV.mono _ _ _, Mono.eq _, Mono.eq _, OwnV.mono _ _ _, OwnV.mono _ _ _, OwnV.mono _ _ _, trivial⟩ ⟨.inr (.inr (MonoRow.eq _ _)), ⟨.inr (.inr (OwnV.monoRow _ _ HROW.out)), ⟨.inl rfl, ⟨.inr (.inr (MonoRow.eq _ _)), ⟨.inr (.inr (MonoRow.eq _ _)), ⟨.inr (.inr (OwnV.monoRow _ _ HROW.out)), ⟨.inr (.inl (by decide)), ⟨.inr (.inl (by decide)), trivial⟩⟩⟩⟩⟩⟩⟩⟩
          (fun _ _ h1 h2 => h2.ext h1) (HB1.out) (HOLD.out) ?_ ?_
        · refine ⟨?_, ?_, ?_, ?_, ?_, ?_, ?_, ?_, trivial⟩
          · intro u w2 hb hS hG hF hU J K hJ hK
            have HB2 := Lib.hid hb
            have HS2 := Lib.hid hS
            have HG2 := Lib.hid hG
            have HF := Lib.hid hF
            have g7 : u 7 = Value.slice A4 m4 c4 := hU 7 (by decide)
            clear hb hF hS hG hU
            go_wp2
            exact hJ _ _ _ (⟨fun _ => Below.refl _ _, fun h => absurd h (by decide), HB2.out, Nat.le_refl _⟩) (rfl) (by simp [setU, g7] <;> omega)
          · intro u w2 hb hS hG hF hU J K hJ hK
            have HB2 := Lib.hid hb
            have HS2 := Lib.hid hS
            have HG2 := Lib.hid hG
            have HF := Lib.hid hF
            clear hb hF hS hG hU
            have hq := HS2.out
            have hq1 : k + 1 ≤ w2.heap.size := by omega
            go_wp2
            exact hJ _ _ _ (⟨fun _ => ext_alloc _ _, fun h => absurd h (by decide), HB2.out.alloc hq1 _, by simp⟩) (OwnV.of (OwnB.lit' wc.heap.size 5 w2 [2, 4] w2.heap.size 2 HS2.out (by decide) rfl rfl) rfl) (by simp [setU] <;> omega)
          · intro u w2 hb hS hG hF hU J K hJ hK
            have HB2 := Lib.hid hb
            have HS2 := Lib.hid hS
            have HG2 := Lib.hid hG
            have HF := Lib.hid hF
            clear hb hF hS hG hU
            have f0 : u 0 = .slice A4 m4 c4 := HF.out 0 (by decide) (.inl (by decide))
            obtain ⟨A1, c1, f1, hl1, hr1, ho1, hc1⟩ := (HF.out 1 (by decide) (.inl (by decide))).get
            have HR1 := Lib.hid hr1; have HO1 := Lib.hid ho1; have HL1 := Lib.hid hl1; clear hr1 ho1 hl1
            have hq := HS2.out
            have hq1 : k + 1 ≤ w2.heap.size := by omega
            have HGO := Lib.hid (HG2.out (by decide))
            dsimp only
            rw [f0, f1]
            go_wp2_with ((with_reducible refine (?_ : wpList _ _ _ (_ :: _) _ _)); at_builtin; refine wpList_appB rfl _ _ 23 rfl (k + 1) 5 Try.underlying23 infoB _ (prL pr) rfl HGO.out _ _ _ ([2, 4]) rfl rfl HR1.out (by simp [HOLDL.out] <;> omega) hq1 ?_)
            intro v3 w3 ho hg _
            have hz := hg.size
            have HO3 := Lib.hid ho; have HG3 := Lib.hid hg; clear ho hg
            go_wp2
            exact hJ _ _ _ (⟨fun h => absurd rfl h.1, fun _ => HG3.out, HGO.out.below HB2.out HG3.out hq1, hz⟩) (OwnV.of HO3.out (by simp [HOLDL.out])) (by simp [setU, f0, f1] <;> omega)
          · intro u w2 hb hS hG hF hU J K hJ hK
            have HB2 := Lib.hid hb
            have HS2 := Lib.hid hS
            have HG2 := Lib.hid hG
            have HF := Lib.hid hF
            clear hb hF hS hG hU
            go_wp2
            exact hJ _ _ _ (⟨fun _ => Below.refl _ _, fun h => absurd h (by decide), HB2.out, Nat.le_refl _⟩) (rfl) (by simp [setU] <;> omega)
          · intro u w2 hb hS hG hF hU J K hJ hK
            have HB2 := Lib.hid hb
            have HS2 := Lib.hid hS
            have HG2 := Lib.hid hG
            have HF := Lib.hid hF
            clear hb hF hS hG hU
            have f3 : u 3 = .pointer (some ⟨k, 9, none⟩) := HF.out 3 (by decide) (.inl (by decide))
            have c8 : w2.cell? ⟨k, 9, none⟩ = some (.int .i64 (og : Int)) := (HKB.out w2 HB2.out)
            go_wp2
            exact hJ _ _ _ (⟨fun _ => Below.refl _ _, fun h => absurd h (by decide), HB2.out, Nat.le_refl _⟩) (rfl) (by simp [setU, f3] <;> omega)
          · intro u w2 hb hS hG hF hU J K hJ hK
            have HB2 := Lib.hid hb
            have HS2 := Lib.hid hS
            have HG2 := Lib.hid hG
            have HF := Lib.hid hF
            clear hb hF hS hG hU
            have f4 : u 4 = .int .i64 (og : Int) := HF.out 4 (by decide) (.inl (by decide))
            have hq := HS2.out
            have hq1 : k + 1 ≤ w2.heap.size := by omega
            go_wp2_with (go_at_call 43; refine (big_n og 2 (by omega) (by omega) _).mono ?_; rintro e w3 ⟨R, d, rfl, ho, hb⟩)
            have HO3 := Lib.hid ho; have HB3 := Lib.hid hb; clear ho hb
            exact hJ _ _ _ (⟨fun _ => HB3.out, fun h => absurd h (by decide), HB2.out.trans (HB3.out.mono hq1), HB3.out.size⟩) (OwnV.base (OwnV.of HO3.out (be_length _ _)) HS2.out) (by simp [setU, f4] <;> omega)
          · intro u w2 hb hS hG hF hU J K hJ hK
            have HB2 := Lib.hid hb
            have HS2 := Lib.hid hS
            have HG2 := Lib.hid hG
            have HF := Lib.hid hF
            clear hb hF hS hG hU
            obtain ⟨A2, c2, f2, hl2, hr2, ho2, hc2⟩ := (HF.out 2 (by decide) (.inl (by decide))).get
            obtain ⟨A5, c5, f5, hl5, hr5, ho5, hc5⟩ := (HF.out 5 (by decide) (.inl (by decide))).get
            have HR2 := Lib.hid hr2; have HO2 := Lib.hid ho2; have HL2 := Lib.hid hl2; clear hr2 ho2 hl2
            have HR5 := Lib.hid hr5; have HO5 := Lib.hid ho5; have HL5 := Lib.hid hl5; clear hr5 ho5 hl5
            have hq := HS2.out
            have hq1 : k + 1 ≤ w2.heap.size := by omega
            dsimp only
            rw [f2, f5]
            go_wp2_with ((with_reducible refine (?_ : wpList _ _ _ (_ :: _) _ _)); at_builtin; refine wpList_appB rfl _ _ 23 rfl (k + 1) 5 Try.underlying23 infoB _ (prL pr ++ [2, 4]) rfl HO2.out _ _ _ (be og 2) rfl (be_length _ _) HR5.out (by simp [be_length, HOLDL.out] <;> omega) hq1 ?_)
            intro v3 w3 ho hg _
            have hz := hg.size
            have HO3 := Lib.hid ho; have HG3 := Lib.hid hg; clear ho hg
            go_wp2
            exact hJ _ _ _ (⟨fun h => absurd rfl h.2, fun h => absurd h (by decide), HO2.out.below HB2.out HG3.out hq1, hz⟩) (OwnV.of (show OwnB (k + 1) 5 w3 v3 (optL pr og) by rw [HPL.out]; first | exact HO3.out | simpa using HO3.out) HPLL.out) (by simp [setU, f2, f5] <;> omega)
          · intro u w2 hb hS hG hF hU J K hJ hK
            have HB2 := Lib.hid hb
            have HS2 := Lib.hid hS
            have HG2 := Lib.hid hG
            have HF := Lib.hid hF
            clear hb hF hS hG hU
            go_wp2
            exact hJ (u 6) _ _ (⟨fun _ => Below.refl _ _, fun h => absurd h (by decide), HB2.out, Nat.le_refl _⟩) (HF.out 6 (by decide) (.inr (by decide))) (by simp [setU] <;> omega)
        · intro u w2 hb hS hF
          have HB2 := Lib.hid hb
          have HS2 := Lib.hid hS
          have f7 := hF 7 (by decide) (by decide)
          clear hb hF hS
          have HF7 : Hid (OwnV (k + 1) (optL pr og) (m4 + 4) (u 7) w2) := Lib.hid f7
          clear f7
          dsimp only
          go_wp2_with fail
          go_meet
          case rel => exact ⟨Lib.hid ⟨_, HF7.out⟩, HB2⟩
    case rest =>
      clear c9 HOLD HOLDL HROW HB1
      obtain ⟨HOV, HB1⟩ := hcut
      obtain ⟨m5, hov⟩ := HOV.out
      obtain ⟨A5, c5, rfl, hl5, hr5, ho5, hc5⟩ := hov.get
      have HOP := Lib.hid ho5
      have HOPL := Lib.hid hl5
      have HOPR := Lib.hid hr5
      have hm5 : m5 ≤ 14 := by rw [← hl5]; exact optL_le _ _
      have hsc3 := HB1.out.size
      clear HOV hov hl5 hr5 ho5 hc5
      have hbk := HKK1.out wc HB1.out
      have c0 : wc.cell? ⟨k, 0, none⟩ = some (.int .i64 (s : Int)) := hbk.cell (by rw [← HCS.out]; rfl)
      have c1 : wc.cell? ⟨k, 1, none⟩ = some (.int .i64 (d : Int)) := hbk.cell (by rw [← HCS.out]; rfl)
      have c6 : wc.cell? ⟨k, 6, none⟩ = some (.int .i64 (fl : Int)) := hbk.cell (by rw [← HCS.out]; rfl)
      have HBK := Lib.hid hbk
      obtain ⟨g, hg⟩ : ∃ g, wc.heap.size = g := ⟨_, rfl⟩
      have hkg : k < g := by omega
      have hkw : k < wc.heap.size := by omega
      have HX : Hid (Below g wc ((wc.alloc (.cells #[.int .u8 70] 5)).alloc (.cells #[.int .u8 (s : Int), .int .u8 (d : Int), .int .u8 (fl : Int)] 5))) := Lib.hid (hg ▸ ext_trans (ext_alloc _ _) (ext_alloc _ _))
      have HXO : Hid (OwnB g 5 ((wc.alloc (.cells #[.int .u8 70] 5)).alloc (.cells #[.int .u8 (s : Int), .int .u8 (d : Int), .int .u8 (fl : Int)] 5)) (.slice (some ⟨wc.heap.size, 0, none⟩) 1 1) [70]) :=
        Lib.hid ((OwnB.lit' g 5 wc [70] wc.heap.size 1 (by omega) (by simp [maxLen]) rfl rfl).ext (ext_alloc _ _))
      have HXR : Hid (RB ((wc.alloc (.cells #[.int .u8 70] 5)).alloc (.cells #[.int .u8 (s : Int), .int .u8 (d : Int), .int .u8 (fl : Int)] 5)) (some ⟨wc.heap.size + 1, 0, none⟩) [UInt8.ofNat s, UInt8.ofNat d, UInt8.ofNat fl]) := Lib.hid (by
        have h := RB.lit (wc.alloc (.cells #[.int .u8 70] 5)) 5 [UInt8.ofNat s, UInt8.ofNat d, UInt8.ofNat fl] (by simp)
        have e1 : ([UInt8.ofNat s, UInt8.ofNat d, UInt8.ofNat fl].map vb).toArray = #[.int .u8 (s : Int), .int .u8 (d : Int), .int .u8 (fl : Int)] := by
          simp only [List.map_cons, List.map_nil, vb_ofNat, Nat.mod_eq_of_lt (show s < 256 by omega), Nat.mod_eq_of_lt (show d < 256 by omega), Nat.mod_eq_of_lt (show fl < 256 by omega)]
        rw [e1, size_alloc] at h
        exact h)
      have HGG := Lib.hid hg
      have HB0 := Lib.hid (HB.out.trans (HB1.out.mono (Nat.le_succ k)))
      clear hbk hg HB HB1 HKK1
      go_wp2_with ((with_reducible refine (?_ : wpList _ _ _ (_ :: _) _ _)); at_builtin; refine wpList_appB rfl _ _ 23 rfl g 5 Try.underlying23 infoB _ [70] rfl HXO.out _ _ _ [UInt8.ofNat s, UInt8.ofNat d, UInt8.ofNat fl] rfl rfl HXR.out (by simp) (by rw [← HGG.out]; simp <;> omega) ?_)
      intro v6 w6 ho6 hg6 _
      obtain ⟨F0, hF0⟩ : ∃ F0, [70, UInt8.ofNat s, UInt8.ofNat d, UInt8.ofNat fl] = F0 := ⟨_, rfl⟩
      have hF0l : F0.length = 4 := by rw [← hF0]; rfl
      have ho6 : OwnB g 5 w6 v6 F0 := by rw [← hF0]; simpa using ho6
      have hb6 := HXO.out.below HX.out hg6 (by rw [← HGG.out]; simp <;> omega)
      have HB1 := Lib.hid hb6
      have hz6 := hb6.size
      rw [HGG.out] at hz6
      have HF0 := Lib.hid hF0
      obtain ⟨A6, d6, rfl, hl6, hr6, hoo6, hc6⟩ := (OwnV.of ho6 hF0l).get
      have HOLD := Lib.hid hoo6
      have HOLDL := Lib.hid hF0l
      have HROW : Hid (∀ b, (.slice A6 4 d6 : Value).ownBlock = some b → b < w6.heap.size) := Lib.hid fun b h => (HOLD.out.blockLt b h).2
      clear hl6 hr6 ho6 hoo6 hc6 hb6 hg6 hF0 hF0l HXO HXR HX c0 c1 c6
      have HKB2 : Hid (∀ W : World, Below g wc W → W.cell? ⟨k, 2, none⟩ = some (.int .i64 (sp : Int))) := Lib.hid fun W h => (HBK.out.ext (HGG.out ▸ h)).cell (by rw [← HCS.out]; rfl)
      have HKB3 : Hid (∀ W : World, Below g wc W → W.cell? ⟨k, 3, none⟩ = some (.int .i64 (dp : Int))) := Lib.hid fun W h => (HBK.out.ext (HGG.out ▸ h)).cell (by rw [← HCS.out]; rfl)
      have HKB4 : Hid (∀ W : World, Below g wc W → W.cell? ⟨k, 4, none⟩ = some (.int .u32 (seq : Int))) := Lib.hid fun W h => (HBK.out.ext (HGG.out ▸ h)).cell (by rw [← HCS.out]; rfl)
      have HKB5 : Hid (∀ W : World, Below g wc W → W.cell? ⟨k, 5, none⟩ = some (.int .u32 (ack : Int))) := Lib.hid fun W h => (HBK.out.ext (HGG.out ▸ h)).cell (by rw [← HCS.out]; rfl)
      go_upto_region 9 with fail
      refine wp_region_own [[], [], [1], [1, 2], [0, 1, 2, 3], [], [5], [0, 1, 2, 3, 4, 5, 6], [0, 1, 2, 3, 4, 5, 6, 7], [0, 1, 2, 3, 4, 5, 6, 7, 8]]
        [fun u _ => u = .slice A6 4 d6,
         fun u _ => u = .pointer (some ⟨k, 2, none⟩),
         fun u _ => u = .int .i64 (sp : Int),
         fun u w => OwnV w6.heap.size (be sp 2) 2 u w,
         fun u w => OwnV g (F0 ++ be sp 2) (4 + 2) u w,
         fun u _ => u = .pointer (some ⟨k, 3, none⟩),
         fun u _ => u = .int .i64 (dp : Int),
         fun u w => OwnV w6.heap.size (be dp 2) 2 u w,
         fun u w => OwnV g (F0 ++ be sp 2 ++ be dp 2) (4 + 4) u w,
         fun u w => OwnV g (F0 ++ be sp 2 ++ be dp 2) (4 + 4) u w]
        (fun u => ⟨#[Value.agg #[Value.int IntKind.i64 (s : Int), Value.int IntKind.i64 (d : Int), Value.int IntKind.i64 (sp : Int), Value.int IntKind.i64 (dp : Int), Value.int IntKind.u32 (seq : Int), Value.int IntKind.u32 (ack : Int), Value.int IntKind.i64 (fl : Int), Value.int IntKind.i64 (wn : Int), Value.int IntKind.i64 (pr : Int), Value.int IntKind.i64 (og : Int), Value.slice A n c], Value.pointer (some { block := k, off := 0 }), Value.slice none 0 0, Value.int IntKind.i64 0, Value.slice A5 m5 c5, u 9, undef, undef, undef, Value.agg #[Value.int IntKind.i64 (s : Int), Value.int IntKind.i64 (d : Int), Value.int IntKind.i64 (sp : Int), Value.int IntKind.i64 (dp : Int), Value.int IntKind.u32 (seq : Int), Value.int IntKind.u32 (ack : Int), Value.int IntKind.i64 (fl : Int), Value.int IntKind.i64 (wn : Int), Value.int IntKind.i64 (pr : Int), Value.int IntKind.i64 (og : Int), Value.slice A n c], Value.int IntKind.i64 0, Value.bool false, Value.pointer (some { block := k, off := 8 }), Value.int IntKind.i64 (pr : Int), Value.bool ((pr : Int) != 0), u15, u16, u17, u18, u19, u20, u21, Value.pointer (some { block := k, off := 9 }), Value.int IntKind.i64 (og : Int), Value.bool ((og : Int) != 0), u25, u26, u27, u28, u29, u30, u31, Value.slice (some { block := wc.heap.size, off := 0 }) 1 1, Value.pointer (some { block := k, off := 0 }), Value.int IntKind.i64 (s : Int), Value.int IntKind.u8 (s : Int), Value.pointer (some { block := k, off := 1 }), Value.int IntKind.i64 (d : Int), Value.int IntKind.u8 (d : Int), Value.pointer (some { block := k, off := 6 }), Value.int IntKind.i64 (fl : Int), Value.int IntKind.u8 (fl : Int), Value.slice (some { block := wc.heap.size + 1, off := 0 }) 3 3, Value.slice A6 4 d6, u 0, u 1, u 2, u 3, u 4, u 5, u 6, u 7, u 8, undef, undef, undef, undef, undef, undef, undef, undef, undef, undef, undef, undef, undef, undef, undef, undef, undef, undef, undef, undef, undef, undef, undef, undef, undef, undef, undef, undef, undef, undef, undef, undef, undef, undef, undef, undef, undef, undef, undef, undef, undef, undef, undef], []⟩)
        g wc (fun W => OwnB g 5 W (.slice A6 4 d6) (F0)) (.slice A6 4 d6 : Value).ownBlock 4 8 (fun j => [undef, undef, undef, undef, undef, undef, undef, undef, undef, Value.slice A6 4 d6].getD j undef) (by kernel_rfl) (by kernel_rfl) (by kernel_rfl) rfl (by kernel_rfl) (Nat.le_of_eq rfl) ⟨Mono.eq _, Mono.eq _, Mono.eq _, OwnV.mono _ _ _, OwnV.mono _ _ _, Mono.eq _, Mono.eq _, OwnV.mono _ _ _, OwnV.mono _ _ _, OwnV.mono _ _ _, trivial⟩ ⟨.inr (.inr (MonoRow.eq _ _)), ⟨.inr (.inr (MonoRow.eq _ _)), ⟨.inr (.inr (MonoRow.eq _ _)), ⟨.inr (.inr (OwnV.monoRow _ _ HROW.out)), ⟨.inl rfl, ⟨.inr (.inr (MonoRow.eq _ _)), ⟨.inr (.inr (MonoRow.eq _ _)), ⟨.inr (.inr (OwnV.monoRow _ _ HROW.out)), ⟨.inr (.inl (by decide)), ⟨.inr (.inl (by decide)), trivial⟩⟩⟩⟩⟩⟩⟩⟩⟩⟩
        (fun _ _ h1 h2 => h2.ext h1) (HB1.out) (HOLD.out) ?_ ?_
      · refine ⟨?_, ?_, ?_, ?_, ?_, ?_, ?_, ?_, ?_, ?_, trivial⟩
        · intro u w2 hb hS hG hF hU J K hJ hK
          have HB2 := Lib.hid hb
          have HS2 := Lib.hid hS
          have HG2 := Lib.hid hG
          have HF := Lib.hid hF
          have g9 : u 9 = Value.slice A6 4 d6 := hU 9 (by decide)
          clear hb hF hS hG hU
          go_wp2
          exact hJ _ _ _ (⟨fun _ => Below.refl _ _, fun h => absurd h (by decide), HB2.out, Nat.le_refl _⟩) (rfl) (by simp [setU, g9] <;> omega)
        · intro u w2 hb hS hG hF hU J K hJ hK
          have HB2 := Lib.hid hb
          have HS2 := Lib.hid hS
          have HG2 := Lib.hid hG
          have HF := Lib.hid hF
          clear hb hF hS hG hU
          go_wp2
          exact hJ _ _ _ (⟨fun _ => Below.refl _ _, fun h => absurd h (by decide), HB2.out, Nat.le_refl _⟩) (rfl) (by simp [setU] <;> omega)
        · intro u w2 hb hS hG hF hU J K hJ hK
          have HB2 := Lib.hid hb
          have HS2 := Lib.hid hS
          have HG2 := Lib.hid hG
          have HF := Lib.hid hF
          clear hb hF hS hG hU
          have f1 : u 1 = .pointer (some ⟨k, 2, none⟩) := HF.out 1 (by decide) (.inl (by decide))
          have cc : w2.cell? ⟨k, 2, none⟩ = some (.int .i64 (sp : Int)) := (HKB2.out w2 HB2.out)
          go_wp2
          exact hJ _ _ _ (⟨fun _ => Below.refl _ _, fun h => absurd h (by decide), HB2.out, Nat.le_refl _⟩) (rfl) (by simp [setU, f1] <;> omega)
        · intro u w2 hb hS hG hF hU J K hJ hK
          have HB2 := Lib.hid hb
          have HS2 := Lib.hid hS
          have HG2 := Lib.hid hG
          have HF := Lib.hid hF
          clear hb hF hS hG hU
          have f2 : u 2 = .int .i64 (sp : Int) := HF.out 2 (by decide) (.inl (by decide))
          have hq := HS2.out
          have hq1 : g ≤ w2.heap.size := by omega
          go_wp2_with (go_at_call 43; refine (big_n sp 2 (by omega) (by omega) _).mono ?_; rintro e w3 ⟨R, d, rfl, ho, hb⟩)
          have HO3 := Lib.hid ho; have HB3 := Lib.hid hb; clear ho hb
          exact hJ _ _ _ (⟨fun _ => HB3.out, fun h => absurd h (by decide), HB2.out.trans (HB3.out.mono hq1), HB3.out.size⟩) (OwnV.base (OwnV.of HO3.out (be_length _ _)) HS2.out) (by simp [setU, f2] <;> omega)
        · intro u w2 hb hS hG hF hU J K hJ hK
          have HB2 := Lib.hid hb
          have HS2 := Lib.hid hS
          have HG2 := Lib.hid hG
          have HF := Lib.hid hF
          clear hb hF hS hG hU
          have f0 : u 0 = .slice A6 4 d6 := HF.out 0 (by decide) (.inl (by decide))
          obtain ⟨A3, c3, f3, hl3, hr3, ho3, hc3⟩ := (HF.out 3 (by decide) (.inl (by decide))).get
          have HR3 := Lib.hid hr3; have HO3 := Lib.hid ho3; have HL3 := Lib.hid hl3; clear hr3 ho3 hl3
          have hq := HS2.out
          have hq1 : g ≤ w2.heap.size := by omega
          have HGO := Lib.hid (HG2.out (by decide))
          dsimp only
          rw [f0, f3]
          go_wp2_with ((with_reducible refine (?_ : wpList _ _ _ (_ :: _) _ _)); at_builtin; refine wpList_appB rfl _ _ 23 rfl g 5 Try.underlying23 infoB _ (F0) rfl HGO.out _ _ _ (be sp 2) rfl (be_length _ _) HR3.out (by simp [HOLDL.out, be_length] <;> omega) hq1 ?_)
          intro v3 w3 ho hg _
          have hz := hg.size
          have HO3 := Lib.hid ho; have HG3 := Lib.hid hg; clear ho hg
          go_wp2
          exact hJ _ _ _ (⟨fun h => absurd rfl h.1, fun _ => HG3.out, HGO.out.below HB2.out HG3.out hq1, hz⟩) (OwnV.of HO3.out (by simp [HOLDL.out, be_length])) (by simp [setU, f0, f3] <;> omega)
        · intro u w2 hb hS hG hF hU J K hJ hK
          have HB2 := Lib.hid hb
          have HS2 := Lib.hid hS
          have HG2 := Lib.hid hG
          have HF := Lib.hid hF
          clear hb hF hS hG hU
          go_wp2
          exact hJ _ _ _ (⟨fun _ => Below.refl _ _, fun h => absurd h (by decide), HB2.out, Nat.le_refl _⟩) (rfl) (by simp [setU] <;> omega)
        · intro u w2 hb hS hG hF hU J K hJ hK
          have HB2 := Lib.hid hb
          have HS2 := Lib.hid hS
          have HG2 := Lib.hid hG
          have HF := Lib.hid hF
          clear hb hF hS hG hU
          have f5 : u 5 = .pointer (some ⟨k, 3, none⟩) := HF.out 5 (by decide) (.inl (by decide))
          have cc : w2.cell? ⟨k, 3, none⟩ = some (.int .i64 (dp : Int)) := (HKB3.out w2 HB2.out)
          go_wp2
          exact hJ _ _ _ (⟨fun _ => Below.refl _ _, fun h => absurd h (by decide), HB2.out, Nat.le_refl _⟩) (rfl) (by simp [setU, f5] <;> omega)
        · intro u w2 hb hS hG hF hU J K hJ hK
          have HB2 := Lib.hid hb
          have HS2 := Lib.hid hS
          have HG2 := Lib.hid hG
          have HF := Lib.hid hF
          clear hb hF hS hG hU
          have f6 : u 6 = .int .i64 (dp : Int) := HF.out 6 (by decide) (.inl (by decide))
          have hq := HS2.out
          have hq1 : g ≤ w2.heap.size := by omega
          go_wp2_with (go_at_call 43; refine (big_n dp 2 (by omega) (by omega) _).mono ?_; rintro e w3 ⟨R, d, rfl, ho, hb⟩)
          have HO3 := Lib.hid ho; have HB3 := Lib.hid hb; clear ho hb
          exact hJ _ _ _ (⟨fun _ => HB3.out, fun h => absurd h (by decide), HB2.out.trans (HB3.out.mono hq1), HB3.out.size⟩) (OwnV.base (OwnV.of HO3.out (be_length _ _)) HS2.out) (by simp [setU, f6] <;> omega)
        · intro u w2 hb hS hG hF hU J K hJ hK
          have HB2 := Lib.hid hb
          have HS2 := Lib.hid hS
          have HG2 := Lib.hid hG
          have HF := Lib.hid hF
          clear hb hF hS hG hU
          obtain ⟨A4, c4, f4, hl4, hr4, ho4, hc4⟩ := (HF.out 4 (by decide) (.inl (by decide))).get
          obtain ⟨A7, c7, f7, hl7, hr7, ho7, hc7⟩ := (HF.out 7 (by decide) (.inl (by decide))).get
          have HR4 := Lib.hid hr4; have HO4 := Lib.hid ho4; have HL4 := Lib.hid hl4; clear hr4 ho4 hl4
          have HR7 := Lib.hid hr7; have HO7 := Lib.hid ho7; have HL7 := Lib.hid hl7; clear hr7 ho7 hl7
          have hq := HS2.out
          have hq1 : g ≤ w2.heap.size := by omega
          dsimp only
          rw [f4, f7]
          go_wp2_with ((with_reducible refine (?_ : wpList _ _ _ (_ :: _) _ _)); at_builtin; refine wpList_appB rfl _ _ 23 rfl g 5 Try.underlying23 infoB _ (F0 ++ be sp 2) rfl HO4.out _ _ _ (be dp 2) rfl (be_length _ _) HR7.out (by simp [HOLDL.out, be_length] <;> omega) hq1 ?_)
          intro v3 w3 ho hg _
          have hz := hg.size
          have HO3 := Lib.hid ho; have HG3 := Lib.hid hg; clear ho hg
          go_wp2
          exact hJ _ _ _ (⟨fun h => absurd rfl h.2, fun h => absurd h (by decide), HO4.out.below HB2.out HG3.out hq1, hz⟩) (OwnV.of (show OwnB g 5 w3 v3 (F0 ++ be sp 2 ++ be dp 2) by first | exact HO3.out | simpa using HO3.out) (by simp [HOLDL.out, be_length])) (by simp [setU, f4, f7] <;> omega)
        · intro u w2 hb hS hG hF hU J K hJ hK
          have HB2 := Lib.hid hb
          have HS2 := Lib.hid hS
          have HG2 := Lib.hid hG
          have HF := Lib.hid hF
          clear hb hF hS hG hU
          go_wp2
          exact hJ (u 8) _ _ (⟨fun _ => Below.refl _ _, fun h => absurd h (by decide), HB2.out, Nat.le_refl _⟩) (HF.out 8 (by decide) (.inr (by decide))) (by simp [setU] <;> omega)
      · intro u w2 hb hS hF
        have HB2 := Lib.hid hb
        have HS2 := Lib.hid hS
        have f9 := hF 9 (by decide) (by decide)
        clear hb hF hS
        have HF7 : Hid (OwnV g (F0 ++ be sp 2 ++ be dp 2) 8 (u 9) w2) := Lib.hid f9
        clear f9
        dsimp only
        generalize u = urrp9 at *
        clear HS2 HOLD HOLDL HROW HB1
        obtain ⟨F1, hF1⟩ : ∃ F1, F0 ++ be sp 2 ++ be dp 2 = F1 := ⟨_, rfl⟩
        rw [hF1] at HF7
        have HF1 := Lib.hid hF1
        obtain ⟨w7, rfl⟩ : ∃ w7, w7 = w2 := ⟨_, rfl⟩
        have HB1 := HB2
        obtain ⟨A7, d7, e7, hl7, hr7, ho7, hc7⟩ := HF7.out.get
        rw [e7]
        have HOLD := Lib.hid ho7
        have HOLDL := Lib.hid hl7
        have HROW : Hid (∀ b, (.slice A7 8 d7 : Value).ownBlock = some b → b < w7.heap.size) := Lib.hid fun b h => (HOLD.out.blockLt b h).2
        have hz7 := HB1.out.size
        rw [HGG.out] at hz7
        clear hl7 hr7 ho7 hc7 hF1 HB2 HF7 e7
        have HF2 : Hid (Hid (F1 = F0 ++ be sp 2 ++ be dp 2)) := Lib.hid (Lib.hid HF1.out.symm)
        go_upto_region 10 with fail
        refine wp_region_own [[], [], [1], [1, 2], [1, 2, 3], [0, 1, 2, 3, 4], [], [6], [6, 7], [0, 1, 2, 3, 4, 5, 6, 7, 8], [0, 1, 2, 3, 4, 5, 6, 7, 8, 9], [0, 1, 2, 3, 4, 5, 6, 7, 8, 9, 10]]
          [fun u _ => u = .slice A7 8 d7,
           fun u _ => u = .pointer (some ⟨k, 4, none⟩),
           fun u _ => u = .int .u32 (seq : Int),
           fun u _ => u = .int .i64 (seq : Int),
           fun u w => OwnV w7.heap.size (be seq 4) 4 u w,
           fun u w => OwnV g (F1 ++ be seq 4) (8 + 4) u w,
           fun u _ => u = .pointer (some ⟨k, 5, none⟩),
           fun u _ => u = .int .u32 (ack : Int),
           fun u _ => u = .int .i64 (ack : Int),
           fun u w => OwnV w7.heap.size (be ack 4) 4 u w,
           fun u w => OwnV g (F1 ++ be seq 4 ++ be ack 4) (8 + 8) u w,
           fun u w => OwnV g (F1 ++ be seq 4 ++ be ack 4) (8 + 8) u w]
          (fun u => ⟨#[Value.agg #[Value.int IntKind.i64 (s : Int), Value.int IntKind.i64 (d : Int), Value.int IntKind.i64 (sp : Int), Value.int IntKind.i64 (dp : Int), Value.int IntKind.u32 (seq : Int), Value.int IntKind.u32 (ack : Int), Value.int IntKind.i64 (fl : Int), Value.int IntKind.i64 (wn : Int), Value.int IntKind.i64 (pr : Int), Value.int IntKind.i64 (og : Int), Value.slice A n c], Value.pointer (some { block := k, off := 0 }), Value.slice none 0 0, Value.int IntKind.i64 0, Value.slice A5 m5 c5, u 11, undef, undef, undef, Value.agg #[Value.int IntKind.i64 (s : Int), Value.int IntKind.i64 (d : Int), Value.int IntKind.i64 (sp : Int), Value.int IntKind.i64 (dp : Int), Value.int IntKind.u32 (seq : Int), Value.int IntKind.u32 (ack : Int), Value.int IntKind.i64 (fl : Int), Value.int IntKind.i64 (wn : Int), Value.int IntKind.i64 (pr : Int), Value.int IntKind.i64 (og : Int), Value.slice A n c], Value.int IntKind.i64 0, Value.bool false, Value.pointer (some { block := k, off := 8 }), Value.int IntKind.i64 (pr : Int), Value.bool ((pr : Int) != 0), u15, u16, u17, u18, u19, u20, u21, Value.pointer (some { block := k, off := 9 }), Value.int IntKind.i64 (og : Int), Value.bool ((og : Int) != 0), u25, u26, u27, u28, u29, u30, u31, Value.slice (some { block := wc.heap.size, off := 0 }) 1 1, Value.pointer (some { block := k, off := 0 }), Value.int IntKind.i64 (s : Int), Value.int IntKind.u8 (s : Int), Value.pointer (some { block := k, off := 1 }), Value.int IntKind.i64 (d : Int), Value.int IntKind.u8 (d : Int), Value.pointer (some { block := k, off := 6 }), Value.int IntKind.i64 (fl : Int), Value.int IntKind.u8 (fl : Int), Value.slice (some { block := wc.heap.size + 1, off := 0 }) 3 3, Value.slice A6 4 d6, urrp9 0, urrp9 1, urrp9 2, urrp9 3, urrp9 4, urrp9 5, urrp9 6, urrp9 7, urrp9 8, u 0, u 1, u 2, u 3, u 4, u 5, u 6, u 7, u 8, u 9, u 10, undef, undef, undef, undef, undef, undef, undef, undef, undef, undef, undef, undef, undef, undef, undef, undef, undef, undef, undef, undef, undef, undef, undef, undef, undef, undef, undef, undef, undef, undef, undef, undef], []⟩)
          g wc (fun W => OwnB g 5 W (.slice A7 8 d7) (F1)) (.slice A7 8 d7 : Value).ownBlock 5 10 (fun j => [undef, undef, undef, undef, undef, undef, undef, undef, undef, undef, undef, Value.slice A7 8 d7].getD j undef) (by kernel_rfl) (by kernel_rfl) (by kernel_rfl) rfl (by kernel_rfl) (Nat.le_of_eq rfl) ⟨Mono.eq _, Mono.eq _, Mono.eq _, Mono.eq _, OwnV.mono _ _ _, OwnV.mono _ _ _, Mono.eq _, Mono.eq _, Mono.eq _, OwnV.mono _ _ _, OwnV.mono _ _ _, OwnV.mono _ _ _, trivial⟩ ⟨.inr (.inr (MonoRow.eq _ _)), ⟨.inr (.inr (MonoRow.eq _ _)), ⟨.inr (.inr (MonoRow.eq _ _)), ⟨.inr (.inr (MonoRow.eq _ _)), ⟨.inr (.inr (OwnV.monoRow _ _ HROW.out)), ⟨.inl rfl, ⟨.inr (.inr (MonoRow.eq _ _)), ⟨.inr (.inr (MonoRow.eq _ _)), ⟨.inr (.inr (MonoRow.eq _ _)), ⟨.inr (.inr (OwnV.monoRow _ _ HROW.out)), ⟨.inr (.inl (by decide)), ⟨.inr (.inl (by decide)), trivial⟩⟩⟩⟩⟩⟩⟩⟩⟩⟩⟩⟩
          (fun _ _ h1 h2 => h2.ext h1) (HB1.out) (HOLD.out) ?_ ?_
        · refine ⟨?_, ?_, ?_, ?_, ?_, ?_, ?_, ?_, ?_, ?_, ?_, ?_, trivial⟩
          · intro u w2 hb hS hG hF hU J K hJ hK
            have HB2 := Lib.hid hb
            have HS2 := Lib.hid hS
            have HG2 := Lib.hid hG
            have HF := Lib.hid hF
            have g11 : u 11 = Value.slice A7 8 d7 := hU 11 (by decide)
            clear hb hF hS hG hU
            go_wp2
            exact hJ _ _ _ (⟨fun _ => Below.refl _ _, fun h => absurd h (by decide), HB2.out, Nat.le_refl _⟩) (rfl) (by simp [setU, g11] <;> omega)
          · intro u w2 hb hS hG hF hU J K hJ hK
            have HB2 := Lib.hid hb
            have HS2 := Lib.hid hS
            have HG2 := Lib.hid hG
            have HF := Lib.hid hF
            clear hb hF hS hG hU
            go_wp2
            exact hJ _ _ _ (⟨fun _ => Below.refl _ _, fun h => absurd h (by decide), HB2.out, Nat.le_refl _⟩) (rfl) (by simp [setU] <;> omega)
          · intro u w2 hb hS hG hF hU J K hJ hK
            have HB2 := Lib.hid hb
            have HS2 := Lib.hid hS
            have HG2 := Lib.hid hG
            have HF := Lib.hid hF
            clear hb hF hS hG hU
            have f1 : u 1 = .pointer (some ⟨k, 4, none⟩) := HF.out 1 (by decide) (.inl (by decide))
            have cc : w2.cell? ⟨k, 4, none⟩ = some (.int .u32 (seq : Int)) := (HKB4.out w2 HB2.out)
            go_wp2
            exact hJ _ _ _ (⟨fun _ => Below.refl _ _, fun h => absurd h (by decide), HB2.out, Nat.le_refl _⟩) (rfl) (by simp [setU, f1] <;> omega)
          · intro u w2 hb hS hG hF hU J K hJ hK
            have HB2 := Lib.hid hb
            have HS2 := Lib.hid hS
            have HG2 := Lib.hid hG
            have HF := Lib.hid hF
            clear hb hF hS hG hU
            have f2 : u 2 = .int .u32 (seq : Int) := HF.out 2 (by decide) (.inl (by decide))
            go_wp2
            exact hJ _ _ _ (⟨fun _ => Below.refl _ _, fun h => absurd h (by decide), HB2.out, Nat.le_refl _⟩) (rfl) (by simp [setU, f2] <;> omega)
          · intro u w2 hb hS hG hF hU J K hJ hK
            have HB2 := Lib.hid hb
            have HS2 := Lib.hid hS
            have HG2 := Lib.hid hG
            have HF := Lib.hid hF
            clear hb hF hS hG hU
            have f3 : u 3 = .int .i64 (seq : Int) := HF.out 3 (by decide) (.inl (by decide))
            have hq := HS2.out
            have hq1 : g ≤ w2.heap.size := by omega
            go_wp2_with (go_at_call 43; refine (big_n seq 4 (by omega) (by omega) _).mono ?_; rintro e w3 ⟨R, d, rfl, ho, hb⟩)
            have HO3 := Lib.hid ho; have HB3 := Lib.hid hb; clear ho hb
            exact hJ _ _ _ (⟨fun _ => HB3.out, fun h => absurd h (by decide), HB2.out.trans (HB3.out.mono hq1), HB3.out.size⟩) (OwnV.base (OwnV.of HO3.out (be_length _ _)) HS2.out) (by simp [setU, f3] <;> omega)
          · intro u w2 hb hS hG hF hU J K hJ hK
            have HB2 := Lib.hid hb
            have HS2 := Lib.hid hS
            have HG2 := Lib.hid hG
            have HF := Lib.hid hF
            clear hb hF hS hG hU
            have f0 : u 0 = .slice A7 8 d7 := HF.out 0 (by decide) (.inl (by decide))
            obtain ⟨A4, c4, f4, hl4, hr4, ho4, hc4⟩ := (HF.out 4 (by decide) (.inl (by decide))).get
            have HR4 := Lib.hid hr4; have HO4 := Lib.hid ho4; have HL4 := Lib.hid hl4; clear hr4 ho4 hl4
            have hq := HS2.out
            have hq1 : g ≤ w2.heap.size := by omega
            have HGO := Lib.hid (HG2.out (by decide))
            dsimp only
            rw [f0, f4]
            go_wp2_with ((with_reducible refine (?_ : wpList _ _ _ (_ :: _) _ _)); at_builtin; refine wpList_appB rfl _ _ 23 rfl g 5 Try.underlying23 infoB _ (F1) rfl HGO.out _ _ _ (be seq 4) rfl (be_length _ _) HR4.out (by simp [HOLDL.out, be_length] <;> omega) hq1 ?_)
            intro v3 w3 ho hg _
            have hz := hg.size
            have HO3 := Lib.hid ho; have HG3 := Lib.hid hg; clear ho hg
            go_wp2
            exact hJ _ _ _ (⟨fun h => absurd rfl h.1, fun _ => HG3.out, HGO.out.below HB2.out HG3.out hq1, hz⟩) (OwnV.of HO3.out (by simp [HOLDL.out, be_length])) (by simp [setU, f0, f4] <;> omega)
          · intro u w2 hb hS hG hF hU J K hJ hK
            have HB2 := Lib.hid hb
            have HS2 := Lib.hid hS
            have HG2 := Lib.hid hG
            have HF := Lib.hid hF
            clear hb hF hS hG hU
            go_wp2
            exact hJ _ _ _ (⟨fun _ => Below.refl _ _, fun h => absurd h (by decide), HB2.out, Nat.le_refl _⟩) (rfl) (by simp [setU] <;> omega)
          · intro u w2 hb hS hG hF hU J K hJ hK
            have HB2 := Lib.hid hb
            have HS2 := Lib.hid hS
            have HG2 := Lib.hid hG
            have HF := Lib.hid hF
            clear hb hF hS hG hU
            have f6 : u 6 = .pointer (some ⟨k, 5, none⟩) := HF.out 6 (by decide) (.inl (by decide))
            have cc : w2.cell? ⟨k, 5, none⟩ = some (.int .u32 (ack : Int)) := (HKB5.out w2 HB2.out)
            go_wp2
            exact hJ _ _ _ (⟨fun _ => Below.refl _ _, fun h => absurd h (by decide), HB2.out, Nat.le_refl _⟩) (rfl) (by simp [setU, f6] <;> omega)
          · intro u w2 hb hS hG hF hU J K hJ hK
            have HB2 := Lib.hid hb
            have HS2 := Lib.hid hS
            have HG2 := Lib.hid hG
            have HF := Lib.hid hF
            clear hb hF hS hG hU
            have f7 : u 7 = .int .u32 (ack : Int) := HF.out 7 (by decide) (.inl (by decide))
            go_wp2
            exact hJ _ _ _ (⟨fun _ => Below.refl _ _, fun h => absurd h (by decide), HB2.out, Nat.le_refl _⟩) (rfl) (by simp [setU, f7] <;> omega)
          · intro u w2 hb hS hG hF hU J K hJ hK
            have HB2 := Lib.hid hb
            have HS2 := Lib.hid hS
            have HG2 := Lib.hid hG
            have HF := Lib.hid hF
            clear hb hF hS hG hU
            have f8 : u 8 = .int .i64 (ack : Int) := HF.out 8 (by decide) (.inl (by decide))
            have hq := HS2.out
            have hq1 : g ≤ w2.heap.size := by omega
            go_wp2_with (go_at_call 43; refine (big_n ack 4 (by omega) (by omega) _).mono ?_; rintro e w3 ⟨R, d, rfl, ho, hb⟩)
            have HO3 := Lib.hid ho; have HB3 := Lib.hid hb; clear ho hb
            exact hJ _ _ _ (⟨fun _ => HB3.out, fun h => absurd h (by decide), HB2.out.trans (HB3.out.mono hq1), HB3.out.size⟩) (OwnV.base (OwnV.of HO3.out (be_length _ _)) HS2.out) (by simp [setU, f8] <;> omega)
          · intro u w2 hb hS hG hF hU J K hJ hK
            have HB2 := Lib.hid hb
            have HS2 := Lib.hid hS
            have HG2 := Lib.hid hG
            have HF := Lib.hid hF
            clear hb hF hS hG hU
            obtain ⟨A5, c5, f5, hl5, hr5, ho5, hc5⟩ := (HF.out 5 (by decide) (.inl (by decide))).get
            obtain ⟨A9, c9, f9, hl9, hr9, ho9, hc9⟩ := (HF.out 9 (by decide) (.inl (by decide))).get
            have HR5 := Lib.hid hr5; have HO5 := Lib.hid ho5; have HL5 := Lib.hid hl5; clear hr5 ho5 hl5
            have HR9 := Lib.hid hr9; have HO9 := Lib.hid ho9; have HL9 := Lib.hid hl9; clear hr9 ho9 hl9
            have hq := HS2.out
            have hq1 : g ≤ w2.heap.size := by omega
            dsimp only
            rw [f5, f9]
            go_wp2_with ((with_reducible refine (?_ : wpList _ _ _ (_ :: _) _ _)); at_builtin; refine wpList_appB rfl _ _ 23 rfl g 5 Try.underlying23 infoB _ (F1 ++ be seq 4) rfl HO5.out _ _ _ (be ack 4) rfl (be_length _ _) HR9.out (by simp [HOLDL.out, be_length] <;> omega) hq1 ?_)
            intro v3 w3 ho hg _
            have hz := hg.size
            have HO3 := Lib.hid ho; have HG3 := Lib.hid hg; clear ho hg
            go_wp2
            exact hJ _ _ _ (⟨fun h => absurd rfl h.2, fun h => absurd h (by decide), HO5.out.below HB2.out HG3.out hq1, hz⟩) (OwnV.of (show OwnB g 5 w3 v3 (F1 ++ be seq 4 ++ be ack 4) by first | exact HO3.out | simpa using HO3.out) (by simp [HOLDL.out, be_length])) (by simp [setU, f5, f9] <;> omega)
          · intro u w2 hb hS hG hF hU J K hJ hK
            have HB2 := Lib.hid hb
            have HS2 := Lib.hid hS
            have HG2 := Lib.hid hG
            have HF := Lib.hid hF
            clear hb hF hS hG hU
            go_wp2
            exact hJ (u 10) _ _ (⟨fun _ => Below.refl _ _, fun h => absurd h (by decide), HB2.out, Nat.le_refl _⟩) (HF.out 10 (by decide) (.inr (by decide))) (by simp [setU] <;> omega)
        · intro u w2 hb hS hF
          have HB2 := Lib.hid hb
          have HS2 := Lib.hid hS
          have f11 := hF 11 (by decide) (by decide)
          clear hb hF hS
          have HF7 : Hid (OwnV g (F1 ++ be seq 4 ++ be ack 4) 16 (u 11) w2) := Lib.hid f11
          clear f11
          dsimp only
          generalize u = urrp10 at *
          clear HS2 HOLD HOLDL HROW HB1
          obtain ⟨F2, hF2⟩ : ∃ F2, F1 ++ be seq 4 ++ be ack 4 = F2 := ⟨_, rfl⟩
          rw [hF2] at HF7
          have HF3 := Lib.hid hF2
          obtain ⟨w8, rfl⟩ : ∃ w8, w8 = w2 := ⟨_, rfl⟩
          have HB8 := HB2
          obtain ⟨A8, d8, e8, hl8, hr8, ho8, hc8⟩ := HF7.out.get
          rw [e8]
          have HO8 := Lib.hid ho8
          have HL8 := Lib.hid hl8
          have hz8 := HB8.out.size
          rw [HGG.out] at hz8
          have hbk := HBK.out.ext (HGG.out ▸ HB8.out)
          have c7 : w8.cell? ⟨k, 7, none⟩ = some (.int .i64 (wn : Int)) := hbk.cell (by rw [← HCS.out]; rfl)
          clear hl8 hr8 ho8 hc8 hF2 HB2 HF7 e8 hbk
          go_wp2_with fail
          refine (big_n wn 2 (by omega) (by omega) _).mono ?_
          rintro e w9 ⟨R9, d9, rfl, ho9, hb9⟩
          have HO9 := Lib.hid (HO8.out.ext hb9)
          have HB9 := Lib.hid (HB8.out.trans (hb9.mono hz8))
          obtain ⟨R9', d9', e9, _, hr9, _, _⟩ := (OwnV.of ho9 (be_length _ _)).get
          injection e9 with ea eb ec
          subst ea ec
          have HR9 := Lib.hid hr9
          have hz9 : g ≤ w9.heap.size := Nat.le_trans hz8 hb9.size
          clear hr9 ho9 hb9 eb HO8 HB8 c7
          go_wp2_with ((with_reducible refine (?_ : wpList _ _ _ (_ :: _) _ _)); at_builtin; refine wpList_appB rfl _ _ 23 rfl g 5 Try.underlying23 infoB _ F2 rfl HO9.out _ _ _ (be wn 2) rfl (be_length _ _) HR9.out (by simp [HL8.out, be_length]) hz9 ?_)
          intro v10 w10 ho10 hg10 _
          have hb10 := HO9.out.below HB9.out hg10 hz9
          obtain ⟨F3, hF3⟩ : ∃ F3, F2 ++ be wn 2 = F3 := ⟨_, rfl⟩
          have ho10 : OwnB g 5 w10 v10 F3 := by rw [← hF3]; exact ho10
          have hF3l : F3.length = 18 := by rw [← hF3, List.length_append, HL8.out, be_length]
          have hFR : F3 = frontL s d sp dp seq ack fl wn := by rw [← hF3, ← HF3.out, ← HF1.out, ← HF0.out]; simp [frontL]
          obtain ⟨A10, d10, rfl, _, hr10, hoo10, hc10⟩ := (OwnV.of ho10 hF3l).get
          have HO10 := Lib.hid hoo10
          have HL10 := Lib.hid hF3l
          have HB10 := Lib.hid hb10
          have hz10 : g ≤ w10.heap.size := by have := hb10.size; rw [HGG.out] at this; exact this
          have HFR := Lib.hid hFR
          have HP10 := Lib.hid (HOP.out.ext (HGG.out ▸ hb10))
          have HK10 := Lib.hid (HBK.out.ext (HGG.out ▸ hb10))
          have hob := HOP.out.form
          clear hg10 hb10 ho10 hoo10 hr10 hc10 hF3 hF3l hFR HB9 HO9 HR9 HL8 HF3 HF2
          obtain ⟨h, hh⟩ : ∃ h, w10.heap.size = h := ⟨_, rfl⟩
          have HH := Lib.hid hh
          have hgh : g ≤ h := by omega
          have HX : Hid (Below h w10 (w10.alloc (.cells #[.int .u8 (m5 : Int), .int .u8 0] 5))) := Lib.hid (hh ▸ ext_alloc _ _)
          have HXO : Hid (OwnB h 5 (w10.alloc (.cells #[.int .u8 (m5 : Int), .int .u8 0] 5)) (.slice (some ⟨w10.heap.size, 0, none⟩) 2 2) [UInt8.ofNat m5, 0]) := Lib.hid (by
            have := OwnB.lit' h 5 w10 [UInt8.ofNat m5, 0] w10.heap.size 2 (by omega) (by simp [maxLen]) rfl rfl
            simp only [List.map_cons, List.map_nil, vb_ofNat, Nat.mod_eq_of_lt (show m5 < 256 by omega)] at this
            exact this)
          obtain ⟨P5', p5', e5, _, hr5, _, hc5⟩ := (OwnV.of HP10.out HOPL.out).get
          injection e5 with ea eb ec
          subst ea ec
          have HR5 := Lib.hid (hr5.ext (ext_alloc _ (.cells #[.int .u8 (m5 : Int), .int .u8 0] 5)))
          clear hr5 hc5 eb hob hh
          go_wp2_with ((with_reducible refine (?_ : wpList _ _ _ (_ :: _) _ _)); at_builtin; refine wpList_appB rfl _ _ 23 rfl h 5 Try.underlying23 infoB _ ([UInt8.ofNat m5, 0]) rfl HXO.out _ _ _ (optL pr og) rfl HOPL.out HR5.out (by simp [HOPL.out] <;> omega) (by rw [← HH.out]; simp) ?_)
          intro v12 w12 ho12 hg12 _
          have hb12 := HXO.out.below HX.out hg12 (by rw [← HH.out]; simp)
          obtain ⟨T0, hT0⟩ : ∃ T0, [UInt8.ofNat m5, 0] ++ optL pr og = T0 := ⟨_, rfl⟩
          have ho12 : OwnB h 5 w12 v12 T0 := by rw [← hT0]; simpa using ho12
          obtain ⟨m12, hm12⟩ : ∃ m, T0.length = m := ⟨_, rfl⟩
          have hm12' : m12 = 2 + m5 := by rw [← hm12, ← hT0, List.length_append, HOPL.out]; rfl
          have hm12'' : m12 ≤ 20 := by omega
          obtain ⟨A12, d12, rfl, _, _, hoo12, _⟩ := (OwnV.of ho12 hm12).get
          have HO12 := Lib.hid hoo12
          have HL12 := Lib.hid hm12
          have HB12 := Lib.hid hb12
          have hz12 : h ≤ w12.heap.size := by have := hb12.size; rw [HH.out] at this; exact this
          have HT0 := Lib.hid hT0
          have HM12 := Lib.hid hm12'
          have hk12 := HK10.out.ext (HH.out ▸ hb12)
          have c10 : w12.cell? ⟨k, 10, none⟩ = some (.slice A n c) := hk12.cell (by rw [← HCS.out]; rfl)
          have HRD := Lib.hid (((H.out.ext (HKK.out.symm ▸ HB0.out)).ext (HGG.out ▸ HB10.out)).ext (HH.out ▸ hb12))
          clear hg12 hb12 ho12 hoo12 hT0 hm12 hm12' hk12 HXO HX HR5
          go_wp2_with ((with_reducible refine (?_ : wpList _ _ _ (_ :: _) _ _)); at_builtin; refine wpList_appB rfl _ _ 23 rfl h 5 Try.underlying23 infoB _ (T0) rfl HO12.out _ _ _ (data) rfl HN.out HRD.out (by rw [HN.out, HL12.out]; omega) (hz12) ?_)
          intro v13 w13 ho13 hg13 _
          have hb13 := HO12.out.below HB12.out hg13 hz12
          obtain ⟨T1, hT1⟩ : ∃ T1, T0 ++ data = T1 := ⟨_, rfl⟩
          have ho13 : OwnB h 5 w13 v13 T1 := by rw [← hT1]; exact ho13
          obtain ⟨m13, hm13⟩ : ∃ m, T1.length = m := ⟨_, rfl⟩
          have hm13' : m13 ≤ 200 := by rw [← hm13, ← hT1, List.length_append, HN.out, HL12.out]; omega
          have HTL : Hid (T1 = tailL pr og data) := Lib.hid (by rw [← hT1, ← HT0.out]; unfold tailL; rw [HOPL.out])
          obtain ⟨A13, d13, rfl, _, hr13, hoo13, _⟩ := (OwnV.of ho13 hm13).get
          have HO13 := Lib.hid hoo13
          have HL13 := Lib.hid hm13
          have HB13 := Lib.hid hb13
          have hz13 : h ≤ w13.heap.size := by have := hb13.size; rw [HH.out] at this; exact this
          have HF13 := Lib.hid (HO10.out.ext (HH.out ▸ hb13))
          clear hg13 hb13 ho13 hoo13 hr13 hT1 hm13 c10 HRD HO12 HB12
          obtain ⟨q, hq⟩ : ∃ q, w13.heap.size = q := ⟨_, rfl⟩
          have HQ := Lib.hid hq
          have hhq : h ≤ q := by omega
          have HX : Hid (Below q w13 (w13.alloc (.cells #[] 5))) := Lib.hid (hq ▸ ext_alloc _ _)
          have HXO : Hid (OwnB q 5 (w13.alloc (.cells #[] 5)) (.slice (some ⟨w13.heap.size, 0, none⟩) 0 0) []) := Lib.hid (OwnB.lit' q 5 w13 [] w13.heap.size 0 (by omega) (by simp [maxLen]) rfl rfl)
          obtain ⟨P5, p5, e5, _, hr5, _, hc5⟩ := (OwnV.of HF13.out HL10.out).get
          injection e5 with ea eb ec
          subst ea ec
          have HRF := Lib.hid (hr5.ext (ext_alloc _ (.cells #[] 5)))
          obtain ⟨P6, p6, e6, _, hr6, _, hc6⟩ := (OwnV.of HO13.out HL13.out).get
          injection e6 with ea6 eb6 ec6
          subst ea6 ec6
          have HRT := Lib.hid hr6
          clear hr5 hc5 eb hr6 hc6 eb6 hq
          go_wp2_with ((with_reducible refine (?_ : wpList _ _ _ (_ :: _) _ _)); at_builtin; refine wpList_appB rfl _ _ 23 rfl q 5 Try.underlying23 infoB _ ([]) rfl HXO.out _ _ _ (F3) rfl HL10.out HRF.out (by simp [HL10.out]) (by rw [← HQ.out]; simp) ?_)
          intro v14 w14 ho14 hg14 _
          have hb14 := HXO.out.below HX.out hg14 (by rw [← HQ.out]; simp)
          have ho14 : OwnB q 5 w14 v14 F3 := by simpa using ho14
          obtain ⟨A14, d14, rfl, _, _, hoo14, _⟩ := (OwnV.of ho14 HL10.out).get
          have HO14 := Lib.hid (hoo14.ext (ext_alloc _ (.cells #[.int .u8 0, .int .u8 0] 5)))
          have hz14 : q ≤ w14.heap.size := by have := hb14.size; rw [HQ.out] at this; exact this
          have HB14 := Lib.hid (hb14.alloc hz14 (.cells #[.int .u8 0, .int .u8 0] 5))
          clear hg14 hb14 ho14 hoo14 HXO HX HRF
          go_wp2_with ((with_reducible refine (?_ : wpList _ _ _ (_ :: _) _ _)); at_builtin; refine wpList_appB rfl _ _ 23 rfl q 5 Try.underlying23 infoB _ (F3) rfl HO14.out _ _ _ ([0, 0]) rfl rfl (RB.lit2 _ _ 0 0) (by simp [HL10.out]) (by simp; omega) ?_)
          intro v15 w15 ho15 hg15 _
          have hb15 := HO14.out.below HB14.out hg15 (by simp; omega)
          have hl15 : (F3 ++ [0, 0]).length = 20 := by rw [List.length_append, HL10.out]; rfl
          obtain ⟨A15, d15, rfl, _, _, hoo15, _⟩ := (OwnV.of ho15 hl15).get
          have HO15 := Lib.hid hoo15
          have HB15 := Lib.hid hb15
          have HL15 := Lib.hid hl15
          have hz15 : q ≤ w15.heap.size := by have := hb15.size; rw [HQ.out] at this; exact this
          have HRT15 := Lib.hid (HRT.out.ext (HQ.out ▸ hb15))
          clear hg15 hb15 ho15 hoo15 hl15 HO14 HB14
          go_wp2_with ((with_reducible refine (?_ : wpList _ _ _ (_ :: _) _ _)); at_builtin; refine wpList_appB rfl _ _ 23 rfl q 5 Try.underlying23 infoB _ (F3 ++ [0, 0]) rfl HO15.out _ _ _ (T1) rfl HL13.out HRT15.out (by rw [HL15.out, HL13.out]; omega) (hz15) ?_)
          intro v16 w16 ho16 hg16 _
          have hb16 := HO15.out.below HB15.out hg16 hz15
          obtain ⟨BL, hBL⟩ : ∃ BL, F3 ++ [0, 0] ++ T1 = BL := ⟨_, rfl⟩
          have ho16 : OwnB q 5 w16 v16 BL := by rw [← hBL]; first | exact ho16 | simpa using ho16
          obtain ⟨m16, hm16⟩ : ∃ m, BL.length = m := ⟨_, rfl⟩
          have hm16' : m16 ≤ 220 := by rw [← hm16, ← hBL, List.length_append, HL15.out, HL13.out]; omega
          obtain ⟨A16, d16, rfl, _, hr16, hoo16, hc16⟩ := (OwnV.of ho16 hm16).get
          have hz16 : q ≤ w16.heap.size := by have := hb16.size; rw [HQ.out] at this; exact this
          have HR16 := Lib.hid hr16
          have HM16 := Lib.hid hm16
          have HB16 := Lib.hid hb16
          have HBB := Lib.hid (RBB.one A16 d16 m16 BL hr16 hm16.symm hc16 23)
          have HSUM : Hid (rinetN [BL] = inetN [BL]) := Lib.hid (inet_eq _).symm
          have HPUT : Hid (putL s d sp dp seq ack fl wn pr og data = F3 ++ be (inetN [BL]) 2 ++ T1) := Lib.hid (by
            have : BL = blankL s d sp dp seq ack fl wn pr og data := by
              rw [← hBL, HFR.out, HTL.out]
              rfl
            rw [this, HFR.out, HTL.out]
            rfl)
          have hsle : inetN [BL] ≤ 65535 := by unfold inetN; omega
          clear hg16 hb16 ho16 hoo16 hr16 hc16 hm16 hBL HO15 HB15
          have HIN : Hid (∀ W : World, RBB W (some ⟨w16.heap.size, 0, none⟩) [BL] → Calls Try.prog 44 #[.slice (some ⟨w16.heap.size, 0, none⟩) 1 1] W fun e w' => e = .returned (.int .u16 (inetN [BL] : Nat)) ∧ Below W.heap.size W w') := Lib.hid fun W hr => by
            have := rinet_calls (some ⟨w16.heap.size, 0, none⟩) 1 [BL] W hr (by simp) (fun i hi => by
              obtain rfl : i = 0 := by simpa using hi
              show BL.length ≤ _
              rw [HM16.out]; omega) (by
              show (wordsTo2 [BL] 1).length ≤ _
              simp only [wordsTo2, List.nil_append, wordsL_length]
              show (BL.length + 1) / 2 ≤ _
              rw [HM16.out]; omega)
            rw [HSUM.out] at this
            exact this
          go_wp2_with fail
          refine (HIN.out _ HBB.out).mono ?_
          rintro e w17 ⟨rfl, hb17⟩
          have hb17' := ext_trans (ext_alloc w16 (.cells #[.slice A16 m16 d16] 23)) hb17
          have HB17 := Lib.hid (HB16.out.trans (hb17'.mono hz16))
          have hz17 : q ≤ w17.heap.size := Nat.le_trans hz16 hb17'.size
          obtain ⟨S, hS⟩ : ∃ S, inetN [BL] = S := ⟨_, rfl⟩
          rw [hS] at HPUT hsle
          rw [hS]
          clear hb17 hb17' HIN HBB HSUM HB16 HR16 hS
          go_wp2_with fail
          refine (big_n S 2 (by omega) (by omega) _).mono ?_
          rintro e w18 ⟨R18, d18, rfl, ho18, hb18⟩
          obtain ⟨P8, p8, e8, _, hr18, _, _⟩ := (OwnV.of ho18 (be_length _ _)).get
          injection e8 with ea8 eb8 ec8
          subst ea8 ec8
          have HR18 := Lib.hid hr18
          have hb18q := HB17.out.trans (hb18.mono hz17)
          have HF18 := Lib.hid (HF13.out.ext (HQ.out ▸ hb18q))
          have HT18 := Lib.hid (HO13.out.ext (HQ.out ▸ hb18q))
          have HB18 := Lib.hid ((HB10.out.trans (HB13.out.mono hgh)).trans (hb18q.mono (show g ≤ q by omega)))
          have hz18 : g ≤ w18.heap.size := by have := hb18q.size; omega
          clear hr18 ho18 hb18 eb8 hb18q HB17
          go_wp2_with ((with_reducible refine (?_ : wpList _ _ _ (_ :: _) _ _)); at_builtin; refine wpList_appB rfl _ _ 23 rfl g 5 Try.underlying23 infoB _ (F3) rfl HF18.out _ _ _ (be S 2) rfl (be_length _ _) HR18.out (by rw [HL10.out, be_length]; omega) (hz18) ?_)
          intro v19 w19 ho19 hg19 _
          have hb19 := HF18.out.below HB18.out hg19 hz18
          have hl19 : (F3 ++ be S 2).length = 20 := by rw [List.length_append, HL10.out, be_length]
          have ht19 := HT18.out.other hg19 (show (Value.slice A13 m13 d13).ownBlock = none ∨ (Value.slice A13 m13 d13).ownBlock ≠ (Value.slice A10 18 d10).ownBlock by
            cases hb : (Value.slice A13 m13 d13).ownBlock with
            | none => exact .inl rfl
            | some b =>
              refine .inr fun e => ?_
              have h1 := (HT18.out.blockLt b hb).1
              have h2 := (HO10.out.blockLt b e.symm).2
              rw [HH.out] at h2
              omega)
          obtain ⟨P9, p9, e9, _, hr19, _, _⟩ := (OwnV.of ht19 HL13.out).get
          injection e9 with ea9 eb9 ec9
          subst ea9 ec9
          obtain ⟨A19, d19, rfl, _, _, hoo19, _⟩ := (OwnV.of ho19 hl19).get
          have HO19 := Lib.hid hoo19
          have HB19 := Lib.hid hb19
          have HL19 := Lib.hid hl19
          have HR19 := Lib.hid hr19
          have hz19 : g ≤ w19.heap.size := by have := hb19.size; rw [HGG.out] at this; exact this
          clear hg19 hb19 ho19 hoo19 hl19 ht19 hr19 eb9 HF18 HT18 HB18
          go_wp2_with ((with_reducible refine (?_ : wpList _ _ _ (_ :: _) _ _)); at_builtin; refine wpList_appB rfl _ _ 23 rfl g 5 Try.underlying23 infoB _ (F3 ++ be S 2) rfl HO19.out _ _ _ (T1) rfl HL13.out HR19.out (by rw [HL19.out, HL13.out]; omega) (hz19) ?_)
          intro v20 w20 ho20 hg20 _
          have hb20 := HO19.out.below HB19.out hg20 hz19
          have ho20 : OwnB g 5 w20 v20 (putL s d sp dp seq ack fl wn pr og data) := by rw [HPUT.out]; first | exact ho20 | simpa using ho20
          obtain ⟨A20, d20, rfl, _, _, hoo20, _⟩ := (OwnV.of ho20 rfl).get
          have HO20 := Lib.hid (hoo20.mono (show k ≤ g by omega))
          have HB20 := Lib.hid (HB0.out.trans (hb20.mono (show k ≤ g by omega)))
          obtain ⟨mr, hmr⟩ : ∃ mr, (putL s d sp dp seq ack fl wn pr og data).length = mr := ⟨_, rfl⟩
          rw [hmr] at HO20 ⊢
          have HMR := Lib.hid hmr
          clear hg20 hb20 ho20 hoo20 hmr
          go_wp2
          go_ret2
          exact ⟨_, mr, d20, rfl, HMR.out.symm, by rw [HKK.out]; exact HO20.out, by rw [HKK.out]; exact HB20.out⟩

set_option maxRecDepth 100000 in
set_option maxHeartbeats 2000000 in
theorem rput_bad (p : Pk) (A : Option Addr) (n c : Nat) (hn : n ≤ 100000) (w : World) (hp : okN p n = false) :
    Calls Try.prog 25 #[.agg (p.cs A n c).toArray] w fun e w' => e = .returned (.tuple #[.slice none 0 0, .int .i64 40]) ∧ Below w.heap.size w w' := by
  have HC : Hid (∀ W : World, Calls Try.prog 27 #[.agg (p.cs A n c).toArray] W fun e w' => e = .returned (.int .i64 40) ∧ Below W.heap.size W w') := Lib.hid fun W => by
    have := rcheck_n p A n c hn W
    rw [hp] at this
    exact this
  clear hp
  obtain ⟨src, dst, sp, dp, seq, ack, fl, wn, pr, og, data⟩ := p
  simp only [Pk.cs] at HC ⊢
  go_enter Try.func25, Try.ntmps25
  go_wp2_with fail
  refine (HC.out _).mono ?_
  rintro e w1 ⟨rfl, hb⟩
  have HB := Lib.hid (ext_trans (ext_alloc w _) hb)
  clear hb
  go_wp2
  go_ret2
  exact ⟨rfl, HB.out⟩
theorem rput_good (p : Pk) (A : Option Addr) (n c : Nat) (hn : p.data.length = n) (w : World) (h : RB w A p.data) (hnc : n ≤ c) (hseq : p.seq < 4294967296) (hack : p.ack < 4294967296) (hok : okN p n = true) :
    Calls Try.prog 25 #[.agg (p.cs A n c).toArray] w fun e w' => ∃ R m cR, e = .returned (.tuple #[.slice R m cR, .int .i64 0]) ∧ m = (putP p).length ∧ OwnB w.heap.size 5 w' (.slice R m cR) (putP p) ∧ Below w.heap.size w w' := by
  obtain ⟨src, dst, sp, dp, seq, ack, fl, wn, pr, og, data⟩ := p
  unfold okN at hok
  simp only [Bool.and_eq_true, decide_eq_true_eq] at hok
  obtain ⟨h1, h2, h3, h4, h5, h6, h7, h8, h9, h10⟩ := hok
  obtain ⟨s, rfl⟩ := Int.eq_ofNat_of_zero_le (show 0 ≤ src by omega)
  obtain ⟨d, rfl⟩ := Int.eq_ofNat_of_zero_le (show 0 ≤ dst by omega)
  obtain ⟨sp, rfl⟩ := Int.eq_ofNat_of_zero_le (show 0 ≤ sp by omega)
  obtain ⟨dp, rfl⟩ := Int.eq_ofNat_of_zero_le (show 0 ≤ dp by omega)
  obtain ⟨fl, rfl⟩ := Int.eq_ofNat_of_zero_le (show 0 ≤ fl by omega)
  obtain ⟨wn, rfl⟩ := Int.eq_ofNat_of_zero_le (show 0 ≤ wn by omega)
  obtain ⟨pr, rfl⟩ := Int.eq_ofNat_of_zero_le (show 0 ≤ pr by omega)
  obtain ⟨og, rfl⟩ := Int.eq_ofNat_of_zero_le (show 0 ≤ og by omega)
  exact rput_ok s d sp dp seq ack fl wn pr og data A n c hn w h hnc (by omega) (by omega) (by omega) (by omega) (by omega) hseq hack (by omega) (by omega) (by omega) (by omega) (by omega)
end Go.Proofs.Ytobkelpeenckeaa
