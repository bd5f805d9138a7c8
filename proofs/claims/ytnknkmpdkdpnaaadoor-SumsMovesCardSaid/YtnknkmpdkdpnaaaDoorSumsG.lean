/- The walks of slices.Grow (of nothing), slices.Concat and of the reference's Open. -/
import Derived.Test.YtnknkmpdkdpnaaaDoorSumsF
import Derived.Test.YtnknkmpdkdpnaaaDoorAny
namespace Go.Proofs.YtnknkmpdkdpnaaaDoor
open Go.RowKit

theorem run_zeros_nil {P : Program} (w : World) (t ti ty e : TypeId) (i : TypeInfo) (ht : P.underlying t = some (.slice e)) (hti : P.underlying ti = some (.int .i64)) (hi : P.info? e = some i) (hz : i.zero = some (.int .u8 0))
    (hsize : i.size = 1) (hby : i.bytes = 1) (m : Nat) (hm : 0 < m) (hb : m ≤ 140737488355328) :
    (Builtin.append_ #[t, ti] ty #[.slice none 0 0, .int .i64 (m : Int)]).run P w =
      .ok (.slice (some ⟨w.heap.size, 0, none⟩) m (grownCap w m 0 e)) (w.drew.alloc (.cells (Builtin.zeroCells #[.int .u8 0] m ++ Builtin.zeroCells #[.int .u8 0] (grownCap w m 0 e - m)) e)) := by
  have hw : IntKind.i64.wrap (m : Int) = m := by rw [IntKind.wrap_i64]; omega
  have h1 : ¬ ((m : Int) < 0) := by omega
  have h2 : ¬ (281474976710656 < (m : Int)) := by omega
  have h3 : ¬ (m = 0) := by omega
  have h4 : ¬ (9223372036854775807 < (m : Int)) := by omega
  have h5 : ¬ (281474976710656 < Builtin.nextslicecap m 0) := by
    have := growslice_fits (show 0 < m by omega) (bytes := 1) (by omega)
    omega
  simp [Builtin.append_, run_underlying ht, run_underlying hti, sizeOf, typeInfo, zeroValue, hi, hz, hsize, hby, asInt, asIntOf, hw, h1, h2, h3, h4, h5, Question.forced, Builtin.firstCells, newRow, grownCap, Value.cells]

theorem run_zeros_own {P : Program} (w : World) (t ti ty e : TypeId) (ht : P.underlying t = some (.slice e)) (hti : P.underlying ti = some (.int .i64)) (hinfo : (P.info? e).map (fun i => (i.zero, i.size, i.bytes)) = some (some (.int .u8 0), 1, 1))
    (m : Nat) (hm : 0 < m) (hb : m ≤ 140737488355328) :
    ∃ cap w1, (Builtin.append_ #[t, ti] ty #[.slice none 0 0, .int .i64 (m : Int)]).run P w = .ok (.slice (some ⟨w.heap.size, 0, none⟩) m cap) w1 ∧ OwnB w.heap.size e w1 (.slice (some ⟨w.heap.size, 0, none⟩) 0 cap) [] ∧ Below w.heap.size w w1 ∧ m ≤ cap ∧ cap ≤ maxLen := by
  obtain ⟨i0, hi, hz0, hz1, hz2⟩ := info_parts hinfo
  have hge := grownCap_ge w m 0 e
  have hcm : grownCap w m 0 e ≤ maxLen := grownCap_le_maxLen w m 0 e (by simp only [maxLen]; omega)
  refine ⟨grownCap w m 0 e, _, run_zeros_nil w t ti ty e i0 ht hti hi hz0 hz1 hz2 m hm hb, ?_, ?_, hge, hcm⟩
  · refine ⟨rfl, .inr ⟨w.heap.size, _, _, rfl, Nat.le_refl _, heap_alloc_new w.drew _, Nat.zero_le _, hcm, ?_, by simp⟩⟩
    simp only [Array.size_append, size_zeroCells]
    simp
    omega
  · exact ((Below.refl _ _).drew).alloc (Nat.le_refl _) _

set_option maxHeartbeats 2000000 in
theorem grow_calls (m : Nat) (hm : m ≤ 140737488351232) (w : World) :
    Calls Tryd.prog 34 #[.slice none 0 0, .int .i64 (m : Int)] w fun e w' => ∃ v, e = .returned v ∧ OwnB w.heap.size 5 w' v [] ∧ Below w.heap.size w w' := by
  by_cases h0 : 0 < m
  · obtain ⟨cap, w1, hr, ho, hb, hc1, hc2⟩ := run_zeros_own (P := Tryd.prog) w 22 3 22 5 Tryd.underlying22 Tryd.underlying3 infoB m h0 (by omega)
    have HO := Lib.hid ho
    have HB := Lib.hid hb
    have hc3 : ¬ cap = 0 := by omega
    clear ho hb
    go_enter Tryd.func34, Tryd.ntmps34
    have HR := Lib.hid hr
    clear hr
    go_wp2_with (at_builtin; refine wpList_app_run rfl _ _ _ _ rfl _ _ _ _ rfl rfl HR.out ?_)
    go_ret
    exact ⟨_, rfl, HO.out, HB.out⟩
  · obtain rfl : m = 0 := by omega
    go_enter Tryd.func34, Tryd.ntmps34
    go_wp2
    go_ret
    exact ⟨_, rfl, OwnB.nil _ _ _, Below.refl _ _⟩

/-- The parts up to k, one behind the other. -/
def catTo (ls : List (List UInt8)) : Nat → List UInt8
  | 0 => []
  | k + 1 => catTo ls k ++ ls.getD k []
theorem catTo_mono (ls : List (List UInt8)) (k d : Nat) : (catTo ls k).length ≤ (catTo ls (k + d)).length := by
  induction d with
  | zero => exact Nat.le_refl _
  | succ d ih => exact Nat.le_trans ih (by rw [← Nat.add_assoc]; simp [catTo])

set_option maxHeartbeats 2000000 in
theorem concat_calls (A : Option Addr) (c : Nat) (ls : List (List UInt8)) (w : World) (h : RBB w A ls) (hn : ls.length ≤ 140737488351232) (htot : (catTo ls ls.length).length ≤ 140737488351232) :
    Calls Tryd.prog 26 #[.slice A ls.length c] w fun e w' => ∃ v, e = .returned v ∧ OwnB w.heap.size 5 w' v (catTo ls ls.length) ∧ Below w.heap.size w w' := by
  have H := Lib.hid h
  clear h
  have HT := Lib.hid htot
  clear htot
  go_enter Tryd.func26, Tryd.ntmps26
  go_wp2
  go_loop [3, 11] (fun v i => ∃ k : Nat, k ≤ ls.length ∧ i = .int .i64 k ∧ v = .int .i64 ((catTo ls k).length : Nat)) (fun _ i => ls.length - (intOf i).toNat)
  case atStart => exact ⟨0, Nat.zero_le _, rfl, rfl⟩
  case round =>
    obtain ⟨k, hk, rfl, rfl⟩ := hrel
    by_cases h1 : k < ls.length
    · obtain ⟨b, o, A', c', rfl, hc, hr, hl'⟩ := H.out k h1
      have hs : Hid ((catTo ls (k + 1)).length = (catTo ls k).length + (ls.getD k []).length) := List.length_append
      have hm : (catTo ls k).length + (ls.getD k []).length ≤ 140737488351232 := by
        have := catTo_mono ls (k + 1) (ls.length - (k + 1))
        rw [show k + 1 + (ls.length - (k + 1)) = ls.length by omega, hs.out] at this
        exact Nat.le_trans this HT.out
      generalize (catTo ls k).length = q at *
      generalize ls.getD k [] = p at *
      clear hr hl'
      go_wp2
      go_round
      case rel => exact ⟨k + 1, by omega, by go_num, by rw [hs.out]; go_num⟩
      case measure => simp [intOf]; omega
    · obtain rfl : k = ls.length := by omega
      go_wp2_with fail
      refine (grow_calls _ HT.out _).mono ?_
      rintro e w1 ⟨v1, rfl, ho, hb⟩
      have HO := Lib.hid ho
      have HB := Lib.hid hb
      have hs := hb.size
      clear ho hb
      go_wp2_with fail
      go_loopw [6, 27] (fun v i w2 => ∃ k : Nat, k ≤ ls.length ∧ i = .int .i64 k ∧ Hid (OwnB w.heap.size 5 w2 v (catTo ls k)) ∧ Hid (Below w.heap.size w w2) ∧ w.heap.size ≤ w2.heap.size) (fun _ i _ => ls.length - (intOf i).toNat)
      case atStart => exact ⟨0, Nat.zero_le _, rfl, HO, HB, hs⟩
      case round =>
        obtain ⟨k, hk, rfl, HO, HB, hs⟩ := hrel
        by_cases h1 : k < ls.length
        · obtain ⟨b, o, A', c', rfl, hc, hr, hl'⟩ := (H.out.ext HB.out) k h1
          have hs3 : Hid (catTo ls (k + 1) = catTo ls k ++ ls.getD k []) := rfl
          have hm : Hid ((catTo ls k).length + (ls.getD k []).length ≤ 140737488351232) := by
            have := catTo_mono ls (k + 1) (ls.length - (k + 1))
            rw [show k + 1 + (ls.length - (k + 1)) = ls.length by omega, hs3.out, List.length_append] at this
            exact Nat.le_trans this HT.out
          generalize ls.getD k [] = p at *
          have HR := Lib.hid hr
          clear hr hl'
          go_wp2_with (at_builtin; refine wpList_appB rfl _ _ 22 rfl w.heap.size 5 Tryd.underlying22 infoB _ _ rfl HO.out _ _ _ p rfl rfl HR.out (by have := hm.out; omega) hs ?_)
          intro v2 w2 ho hg _
          have hb := HO.out.below HB.out hg hs
          have hs2 := hb.size
          rw [← hs3.out] at ho
          have HB2 := Lib.hid hb
          have HO2 := Lib.hid ho
          clear ho hb hg
          go_wp2
          go_roundw
          case rel => exact ⟨k + 1, by omega, by go_num, HO2, HB2, hs2⟩
          case measure => simp [intOf]; omega
        · obtain rfl : k = ls.length := by omega
          go_wp2
          go_ret
          exact ⟨_, rfl, HO.out, HB.out⟩

/-- What the reference opens. -/
def ropenE (l : List UInt8) : Nat := if l.length < 4 then 2 else if rsealL (l.take (l.length - 4)) = l then 0 else 10
def ropenL (l : List UInt8) : List UInt8 := if ropenE l = 0 then l.take (l.length - 4) else []

set_option maxHeartbeats 2000000 in
theorem ropen_calls (A : Option Addr) (c : Nat) (l : List UInt8) (w : World) (h : RB w A l) (hlc : l.length ≤ c) (hl : l.length ≤ 140737488351232) :
    Calls Tryd.prog 28 #[.slice A l.length c] w fun e w' => ∃ v, e = .returned (.tuple #[v, .int .i64 (ropenE l : Nat)]) ∧ OwnB w.heap.size 5 w' v (ropenL l) ∧ Below w.heap.size w w' := by
  have H := Lib.hid h
  clear h
  by_cases h4 : l.length < 4
  · have E : Hid (ropenE l = 2) := by unfold ropenE; rw [if_pos h4]; exact Lib.hid rfl
    go_enter Tryd.func28, Tryd.ntmps28
    go_wp2
    go_ret2
    exact ⟨_, by rw [E.out]; rfl, by unfold ropenL; rw [E.out]; exact OwnB.nil _ _ _, Below.refl _ _⟩
  · obtain ⟨n, hn⟩ : ∃ n, l.length = n + 4 := ⟨l.length - 4, by omega⟩
    have E : Hid (ropenE l = if rsealL (l.take n) = l then 0 else 10) := by
      unfold ropenE; rw [if_neg h4, show l.length - 4 = n by omega]; exact Lib.hid rfl
    have EL : Hid (ropenL l = if ropenE l = 0 then l.take n else []) := by
      unfold ropenL; rw [show l.length - 4 = n by omega]; exact Lib.hid rfl
    have ht : Hid ((l.take n).length = n) := by rw [List.length_take, show min n l.length = n by omega]; exact Lib.hid rfl
    have HLN := Lib.hid hn
    rw [hn]
    rw [hn] at hl hlc
    clear hn h4
    go_enter Tryd.func28, Tryd.ntmps28
    go_wp2_with (at_builtin; refine wpList_appB rfl _ _ 22 rfl w.heap.size 5 Tryd.underlying22 infoB _ [] rfl (OwnB.lit' _ _ _ [] _ _ (by simp) (by simp) rfl rfl) _ _ _ (l.take n) rfl ht.out ((H.out.take n).ext (ext_alloc _ _)) (by rw [ht.out]; simp; omega) (by simp) ?_)
    intro v1 w1 ho hg _
    have hb := (OwnB.lit' w.heap.size 5 w [] w.heap.size 0 (by simp) (by simp) rfl rfl).below (ext_alloc _ _) hg (by simp)
    have hs1 := hb.size
    obtain ⟨A1, c1, e1, hr1, hc1, _⟩ := ho.form
    rw [ht.out] at e1 hc1
    subst e1
    have HR1 := Lib.hid hr1
    have HB := Lib.hid hb
    have HO := Lib.hid ho
    clear ho hb hg hr1 hc1
    go_wp2
    have hcs := fun (W : World) (h : RB W A l) => conv_str (P := Tryd.prog) Tryd.underlying22 Tryd.underlying5 Tryd.underlying9 h (n + 4) c HLN.out.symm
    have HCS := Lib.hid hcs
    clear hcs
    refine wp_region_rel [[], [0], [0, 1], [], [3], [0, 1, 2, 3, 4]] (fun b a w2 => ∃ u15 u16 u17 u18 u19 u20 : Value, a = ⟨#[.slice A (n + 4) c, undef, .slice none 0 0, .int .i64 0, .slice A1 n c1, .slice A (n + 4) c, .int .i64 ((n : Int) + 4),
        .bool (decide ((n : Int) + 4 < 4)), .slice (some ⟨w.heap.size, 0, none⟩) 0 0, .slice A (n + 4) c, .slice A (n + 4) c, .int .i64 ((n : Int) + 4), .int .i64 (n : Int), .slice A n c, .slice A1 n c1, u15, u16, u17, u18, u19, u20, undef], []⟩ ∧
        (b 0 = true → u15 = .slice A1 n c1) ∧ (b 1 = true → OwnB w.heap.size 5 w2 u16 (rsealL (l.take n))) ∧ (b 2 = true → u17 = .string (strB (rsealL (l.take n)))) ∧ (b 3 = true → u18 = .slice A (n + 4) c) ∧ (b 4 = true → u19 = .string (strB l)) ∧ (b 5 = true → u20 = .bool (!(rsealL (l.take n) == l))) ∧ Below w1.heap.size w1 w2) (by kernel_rfl) (by kernel_rfl) (by kernel_rfl) ?_ ?_ ?_
    · exact ⟨_, _, _, _, _, _, rfl, (fun h => by cases h), (fun h => by cases h), (fun h => by cases h), (fun h => by cases h), (fun h => by cases h), (fun h => by cases h), (Below.refl _ _).drew⟩
    · refine ⟨?_, ?_, ?_, ?_, ?_, ?_, trivial⟩
      · rintro b a w2 ⟨u15, u16, u17, u18, u19, u20, rfl, f0, f1, f2, f3, f4, f5, hb⟩ hb0 hB J K hJ hK
        have F0 := Lib.hid f0
        have F1 := Lib.hid f1
        have F2 := Lib.hid f2
        have F3 := Lib.hid f3
        have F4 := Lib.hid f4
        have F5 := Lib.hid f5
        have HB2 := Lib.hid hb
        clear f0 f1 f2 f3 f4 f5 hb
        go_wp2
        exact hJ _ _ _ ⟨_, _, _, _, _, _, rfl, fun _ => rfl, fun h => F1.out h, fun h => F2.out h, fun h => F3.out h, fun h => F4.out h, fun h => F5.out h, HB2.out⟩
      · rintro b a w2 ⟨u15, u16, u17, u18, u19, u20, rfl, f0, f1, f2, f3, f4, f5, hb⟩ hb0 hB J K hJ hK
        have F0 := Lib.hid f0
        have F1 := Lib.hid f1
        have F2 := Lib.hid f2
        have F3 := Lib.hid f3
        have F4 := Lib.hid f4
        have F5 := Lib.hid f5
        have HB2 := Lib.hid hb
        clear f0 f1 f2 f3 f4 f5 hb
        obtain rfl := F0.out (hB 0 (by decide))
        go_wp2_with fail
        have k := rseal_calls A1 c1 (l.take n) w2 (HR1.out.ext HB2.out) (by rw [ht.out]; omega)
        rw [ht.out] at k
        refine k.mono ?_
        clear k
        rintro e w3 ⟨v, rfl, ho, hb3⟩
        have HO3 := Lib.hid (ho.mono (Nat.le_trans hs1 HB2.out.size))
        have HB3 := Lib.hid (ext_trans HB2.out hb3)
        clear ho hb3
        go_wp2
        exact hJ _ _ _ ⟨_, _, _, _, _, _, rfl, fun _ => rfl, fun _ => HO3.out, fun h => F2.out h, fun h => F3.out h, fun h => F4.out h, fun h => F5.out h, HB3.out⟩
      · rintro b a w2 ⟨u15, u16, u17, u18, u19, u20, rfl, f0, f1, f2, f3, f4, f5, hb⟩ hb0 hB J K hJ hK
        have F0 := Lib.hid f0
        have F1 := Lib.hid f1
        have F2 := Lib.hid f2
        have F3 := Lib.hid f3
        have F4 := Lib.hid f4
        have F5 := Lib.hid f5
        have HB2 := Lib.hid hb
        clear f0 f1 f2 f3 f4 f5 hb
        have ho := F1.out (hB 1 (by decide))
        obtain ⟨A3, c3, rfl, hr3, _⟩ := ho.form
        have kc := conv_str (P := Tryd.prog) Tryd.underlying22 Tryd.underlying5 Tryd.underlying9 hr3 _ c3 rfl
        generalize (rsealL (l.take n)).length = m at *
        have HO3 := Lib.hid ho
        clear ho hr3
        go_wp2
        exact hJ _ _ _ ⟨_, _, _, _, _, _, rfl, fun h => F0.out h, fun h => F1.out h, fun _ => rfl, fun h => F3.out h, fun h => F4.out h, fun h => F5.out h, HB2.out⟩
      · rintro b a w2 ⟨u15, u16, u17, u18, u19, u20, rfl, f0, f1, f2, f3, f4, f5, hb⟩ hb0 hB J K hJ hK
        have F0 := Lib.hid f0
        have F1 := Lib.hid f1
        have F2 := Lib.hid f2
        have F3 := Lib.hid f3
        have F4 := Lib.hid f4
        have F5 := Lib.hid f5
        have HB2 := Lib.hid hb
        clear f0 f1 f2 f3 f4 f5 hb
        go_wp2
        exact hJ _ _ _ ⟨_, _, _, _, _, _, rfl, fun h => F0.out h, fun h => F1.out h, fun h => F2.out h, fun _ => rfl, fun h => F4.out h, fun h => F5.out h, HB2.out⟩
      · rintro b a w2 ⟨u15, u16, u17, u18, u19, u20, rfl, f0, f1, f2, f3, f4, f5, hb⟩ hb0 hB J K hJ hK
        have F0 := Lib.hid f0
        have F1 := Lib.hid f1
        have F2 := Lib.hid f2
        have F3 := Lib.hid f3
        have F4 := Lib.hid f4
        have F5 := Lib.hid f5
        have HB2 := Lib.hid hb
        clear f0 f1 f2 f3 f4 f5 hb
        obtain rfl := F3.out (hB 3 (by decide))
        have kc := HCS.out w2 ((H.out.ext HB.out).ext HB2.out)
        go_wp2
        exact hJ _ _ _ ⟨_, _, _, _, _, _, rfl, fun h => F0.out h, fun h => F1.out h, fun h => F2.out h, fun _ => rfl, fun _ => rfl, fun h => F5.out h, HB2.out⟩
      · rintro b a w2 ⟨u15, u16, u17, u18, u19, u20, rfl, f0, f1, f2, f3, f4, f5, hb⟩ hb0 hB J K hJ hK
        have F0 := Lib.hid f0
        have F1 := Lib.hid f1
        have F2 := Lib.hid f2
        have F3 := Lib.hid f3
        have F4 := Lib.hid f4
        have F5 := Lib.hid f5
        have HB2 := Lib.hid hb
        clear f0 f1 f2 f3 f4 f5 hb
        obtain rfl := F2.out (hB 2 (by decide))
        obtain rfl := F4.out (hB 4 (by decide))
        have kc := strB_toList
        go_wp2
        exact hJ _ _ _ ⟨_, _, _, _, _, _, rfl, fun h => F0.out h, fun h => F1.out h, fun _ => rfl, fun h => F3.out h, fun _ => rfl, fun _ => rfl, HB2.out⟩
    · rintro b a w2 hall ⟨u15, u16, u17, u18, u19, u20, rfl, f0, f1, f2, f3, f4, f5, hb⟩
      obtain rfl := f5 (hall 5 (by decide))
      have HO2 := Lib.hid (HO.out.ext hb)
      have HB2 := Lib.hid (ext_trans HB.out hb)
      clear f0 f1 f2 f3 f4 f5 hb
      by_cases he : rsealL (l.take n) = l
      · have hd : (!(rsealL (l.take n) == l)) = false := by rw [he, beq_self_eq_true l]; rfl
        rw [hd]
        have HE := Lib.hid he
        clear he
        go_wp2
        go_ret2
        have E0 : ropenE l = 0 := by rw [E.out, if_pos HE.out]
        exact ⟨_, by rw [E0]; rfl, by rw [EL.out, if_pos E0]; exact HO2.out, HB2.out⟩
      · have hd : (!(rsealL (l.take n) == l)) = true := by rw [beq_eq_false_iff_ne.2 he]; rfl
        rw [hd]
        have HE := Lib.hid he
        clear he
        go_wp2
        go_ret2
        have E0 : ropenE l = 10 := by rw [E.out, if_neg HE.out]
        exact ⟨_, by rw [E0]; rfl, by rw [EL.out, E0]; exact OwnB.nil _ _ _, HB2.out⟩
end Go.Proofs.YtnknkmpdkdpnaaaDoor
