/- digest: the contracts of New, Sum and Of. -/
import Derived.Test.YtchbnablefoemaaDoorHashB
import Derived.Deep.Cut
namespace Go.Proofs.YtchbnablefoemaaDoor
open Go.RowKit
set_option linter.unusedVariables false

theorem info8f : (Tryd.prog.info? 26).map (·.size) = some (firstL.map vw).length := by kernel_rfl
theorem first_range {w : World} (h : Tabs w) : w.rangeAt 0 0 (firstL.map vw) := fun j v hv => by
  have hj : j < firstL.length := by have := (List.getElem?_eq_some_iff.1 hv).1; simpa using this
  rw [Nat.zero_add, h.1 j hj]
  simp [List.getElem?_eq_getElem hj] at hv
  rw [← hv]
  simp [gw, vw, List.getD_eq_getElem?_getD, List.getElem?_eq_getElem hj]
theorem hashL_nil : hashL [] = firstL := rfl
theorem restL_nil : restL [] = [] := rfl
theorem new_calls (w : World) (hT : Tabs w) :
    Calls Tryd.prog 12 #[] w fun e w' => e = .returned (.pointer (some ⟨w.heap.size, 0, none⟩)) ∧ HashIs w' w.heap.size none [] ∧ Below w.heap.size w w' := by
  have HR := Lib.hid (first_range hT)
  clear hT
  go_enter Tryd.func12, Tryd.ntmps12
  go_wp2_with ((with_reducible refine (?_ : wpList _ _ _ (_ :: _) _ _)); refine wpList_load_mid rfl 26 _ rfl 0 0 rfl (firstL.map vw) _ HR.out Tryd.underlying26 rfl info8f ?_)
  go_ret
  exact ⟨rfl, ⟨0, BK.new w 29 (hcs firstL (.slice none 0 0) 0), RB.nil _ _, Nat.le_refl _⟩, ext_alloc w _⟩

/-! ### what Sum reckons -/
def zerosN (n : Nat) : Nat := (119 - n % 64) % 64
def padL (r : List UInt8) (k : Nat) : List UInt8 := r ++ [128] ++ List.replicate k 0
def lenB (n i : Nat) : List UInt8 := (List.range i).map fun j => UInt8.ofNat (n * 8 / 2 ^ (56 - 8 * j))
def endL (r : List UInt8) (n : Nat) : List UInt8 := padL r (zerosN r.length) ++ lenB n 8
def outB (x : List Nat) (i : Nat) : UInt8 := UInt8.ofNat (gw x (i / 4) / 2 ^ (24 - 8 * (i % 4)))
def outL (x : List Nat) (k : Nat) : List UInt8 := (List.range k).map (outB x)
def sumX (x : List Nat) (r : List UInt8) (n : Nat) : List UInt8 := outL (hashTo x (endL r n) ((endL r n).length / 64)) 32
def sumL (L : List UInt8) : List UInt8 := sumX (hashL L) (restL L) L.length
theorem padL_length (r : List UInt8) (k : Nat) : (padL r k).length = r.length + 1 + k := by simp [padL]; omega
theorem padL_snoc (r : List UInt8) (k : Nat) : padL r k ++ [0] = padL r (k + 1) := by simp [padL, List.replicate_succ']
theorem lenB_length (n i : Nat) : (lenB n i).length = i := by simp [lenB]
theorem lenB_snoc (n i : Nat) : lenB n i ++ [UInt8.ofNat (n * 8 / 2 ^ (56 - 8 * i))] = lenB n (i + 1) := by simp [lenB, List.range_succ]
theorem outL_length (x : List Nat) (k : Nat) : (outL x k).length = k := by simp [outL]
theorem outL_snoc (x : List Nat) (k : Nat) : outL x (k + 1) = outL x k ++ [outB x k] := by simp [outL, List.range_succ]
theorem vb_ofNat (n : Nat) : vb (UInt8.ofNat n) = .int .u8 ((n % 256 : Nat) : Int) := by simp [vb]
theorem RB.lit1 (w : World) (e : TypeId) (z : Int) (x : UInt8) (hz : z = (x.toNat : Int)) : RB (w.alloc (.cells #[.int .u8 z] e)) (some ⟨w.heap.size, 0, none⟩) [x] := by
  subst hz
  intro i hi
  obtain rfl : i = 0 := by simpa using hi
  exact ⟨w.heap.size, 0, rfl, by simp [gb]⟩

theorem info32 (l : List UInt8) (h : l.length = 32) : (Tryd.prog.info? 33).map (·.size) = some (l.map vb).toArray.size := by
  rw [show (l.map vb).toArray.size = 32 by simp [h]]
  kernel_rfl
theorem outL_set (X : List Nat) (k : Nat) (h : k < 32) : ((outL X k).map vb ++ List.replicate (32 - k) (Value.int .u8 0)).set k (vb (outB X k)) = (outL X (k + 1)).map vb ++ List.replicate (32 - (k + 1)) (Value.int .u8 0) := by
  obtain ⟨d, hd⟩ : ∃ d, 32 - k = d + 1 := ⟨31 - k, by omega⟩
  rw [hd, show 32 - (k + 1) = d by omega, outL_snoc, List.set_append, if_neg (by simp [outL]), List.replicate_succ]
  simp [outL]
/-- What a block of a running hash leaves. -/
theorem state_round {g : Nat} {y : List Nat} (hy : y.length = 8) {l : List UInt8} {wr wm w' : World} (hK : BK wr g 27 (y.map vw)) (hb : Below wr.heap.size wr wm) (hw : w' = wm.setCells g 0 (List.map vw (stirL y l))) :
    BK w' g 27 ((stirL y l).map vw) ∧ wr.grownBy w' (some g) := by
  constructor
  · have := BK.setCells (List.map vw (stirL y l)) 0 _ wm (hK.ext hb) (by simp [stirL_length, hy])
    rw [hw]
    simpa [List.drop_eq_nil_of_le, stirL_length, hy] using this
  · rw [hw]; exact grown_trans (grown_of_below hb _) (grown_setCells wm g 0 _)

set_option maxRecDepth 8000 in
set_option maxHeartbeats 2000000 in
theorem sum_core (g : Nat) (x : List Nat) (hx : x.length = 8) (hxw : Words x) (R : Option Addr) (c0 : Nat) (r : List UInt8) (n : Nat) (w : World)
    (hK : BK w g 29 (hcs x (.slice R r.length c0) n)) (hR : RB w R r) (hT : Tabs w) (hr : r.length < 64) (hn : n ≤ 1152921504606846975) :
    Calls Tryd.prog 11 #[.pointer (some ⟨g, 0, none⟩)] w fun e w' => e = .returned (.agg ((sumX x r n).map vb).toArray) ∧ Below w.heap.size w w' := by
  have hgl := hK.lt
  have c8 := hK.cell (hcs_8 hx (.slice R r.length c0) n).1
  have c9 := hK.cell (hcs_8 hx (.slice R r.length c0) n).2.1
  have c10 := hK.cell (hcs_8 hx (.slice R r.length c0) n).2.2
  have HK := Lib.hid hK
  have HR := Lib.hid hR
  have HT := Lib.hid hT
  have HX := Lib.hid hx
  have HXW := Lib.hid hxw
  clear hK hR hT hx hxw
  go_enter Tryd.func11, Tryd.ntmps11
  go_upto_region 4 with fail
  refine name_world (fun w2 => BK w2 w.heap.size 33 (List.replicate 32 (.int .u8 0)) ∧ BK w2 (w.heap.size + 1) 33 (List.replicate 32 (.int .u8 0)) ∧ Below w.heap.size w w2 ∧ w2.heap.size = w.heap.size + 2)
    ⟨heap_old (heap_new w _ rfl), heap_new (w.alloc _) _ (by simp), (ext_alloc w _).alloc (by simp) _, by simp⟩ ?_
  rintro w2 ⟨hz2, hz3, hb2, hs2⟩
  obtain ⟨s, hs⟩ : ∃ s, w.heap.size = s := ⟨_, rfl⟩
  obtain ⟨B, hB⟩ : ∃ B, w2.heap.size = B := ⟨_, rfl⟩
  rw [hs] at hz2 hz3 hb2 hs2 hgl
  rw [hB] at hs2
  have HW := Lib.hid hs
  have HK2 := Lib.hid (HK.out.ext (by rw [hs]; exact hb2))
  have HR2 := Lib.hid (HR.out.ext (by rw [hs]; exact hb2))
  have HT2 := Lib.hid (HT.out.ext (by rw [hs]; exact hb2))
  have c8 := HK2.out.cell (hcs_8 HX.out (.slice R r.length c0) n).1
  rw [hs]
  have HZ2 := Lib.hid hz2
  have HZ3 := Lib.hid hz3
  have HB2 := Lib.hid hb2
  have HBe := Lib.hid hB
  have hsB : s + 2 ≤ B := by omega
  have hsB2 : B ≤ s + 2 := by omega
  have hgl2 : g < B := by omega
  have hgl3 : g < w2.heap.size := by omega
  clear hs c9 c10 hz2 hz3 hb2 hs2 HK HR HT hB
  go_wp2_with ((with_reducible refine (?_ : wpList _ _ _ (_ :: _) _ _)); at_builtin; refine wpList_appB rfl _ _ 22 rfl B 5 Tryd.underlying22 infoB _ [] rfl (OwnB.lit' _ _ w2 [] w2.heap.size 0 (by rw [HBe.out]; exact Nat.le_refl _) (by simp) rfl rfl) _ _ _ r rfl rfl (HR2.out.ext (ext_alloc _ _)) (by simp; omega) (by simp [HBe.out]) ?_)
  intro v3 w3 ho hg3 _
  have hb := (OwnB.lit' B 5 w2 [] w2.heap.size 0 (by rw [HBe.out]; exact Nat.le_refl _) (by simp) rfl rfl).below (by rw [← HBe.out]; exact ext_alloc w2 _) hg3 (by simp [HBe.out])
  have hsz := hb.size
  rw [HBe.out] at hsz
  have HO := Lib.hid ho
  have HB := Lib.hid hb
  clear ho hb hg3 c8
  go_wp2_with ((with_reducible refine (?_ : wpList _ _ _ (_ :: _) _ _)); at_builtin; refine wpList_appB rfl _ _ 22 rfl B 5 Tryd.underlying22 infoB _ r rfl (HO.out.ext (ext_alloc _ _)) _ _ _ [128] rfl rfl (RB.lit1 _ _ _ 128 rfl) (by simp; omega) (by simp; omega) ?_)
  intro v4 w4 ho hg4 _
  have hb := (HO.out.ext (ext_alloc _ _)).below (HB.out.alloc hsz _) hg4 (by simp; omega)
  have hsz4 := hb.size
  rw [HBe.out] at hsz4
  have HO4 : Hid (OwnB B 5 w4 v4 (padL r 0)) := Lib.hid (by simpa [padL] using ho)
  have HB4 := Lib.hid hb
  clear ho hb hg4 HO HB hsz
  go_wp2_with fail
  go_loopw [4] (fun v wr => ∃ k : Nat, k ≤ zerosN r.length ∧ Hid (OwnB B 5 wr v (padL r k)) ∧ Hid (Below B w2 wr) ∧ B ≤ wr.heap.size) (fun v _ => 300 - lenV v)
  case atStart => exact ⟨0, Nat.zero_le _, HO4, HB4, hsz4⟩
  case round =>
    obtain ⟨k, hk, HO, HB, hsz⟩ := hrel
    obtain ⟨A, c, rfl, hr4, hc, _⟩ := HO.out.form
    obtain ⟨m, hm⟩ : ∃ m, (padL r k).length = m := ⟨_, rfl⟩
    have hm2 : m = r.length + 1 + k := by rw [← hm, padL_length]
    rw [hm] at hc HO ⊢
    have HM := Lib.hid hm
    have HM2 := Lib.hid hm2
    have hzn : zerosN r.length = (119 - r.length % 64) % 64 := rfl
    by_cases hz : k < zerosN r.length
    · have hbe : ((m : Int) % 64 != 56) = true := by rw [bne_iff_ne]; omega
      have hm3 : m ≤ 200 := by omega
      clear hm hm2 hzn hr4
      go_wp2_with ((with_reducible refine (?_ : wpList _ _ _ (_ :: _) _ _)); at_builtin; refine wpList_appB rfl _ _ 22 rfl B 5 Tryd.underlying22 infoB _ (padL r k) rfl (HO.out.ext (ext_alloc _ _)) _ _ _ [0] rfl rfl (RB.lit1 _ _ _ 0 rfl) (by simp [HM.out]; omega) (by simp; omega) ?_)
      intro v5 w5 ho hg5 _
      have hb := (HO.out.ext (ext_alloc _ _)).below (HB.out.alloc hsz _) hg5 (by simp; omega)
      have hsz5 := hb.size
      rw [HBe.out] at hsz5
      rw [padL_snoc] at ho
      obtain ⟨A5, c5, rfl, _, _, _⟩ := ho.form
      have hl5 : m < (padL r (k + 1)).length := by rw [padL_length]; have := HM2.out; omega
      have HO5 := Lib.hid ho
      have HB5 := Lib.hid hb
      clear ho hb hg5
      go_wp2
      exact ⟨⟨k + 1, by omega, HO5, HB5, hsz5⟩, by rw [lenV_slice, lenV_slice]; omega⟩
    · have hbe : ((m : Int) % 64 != 56) = false := by rw [bne_eq_false_iff_eq]; omega
      obtain rfl : k = zerosN r.length := by omega
      obtain ⟨P, hP⟩ : ∃ P, padL r (zerosN r.length) = P := ⟨_, rfl⟩
      have hPl : P.length = m := by rw [← hP]; exact hm
      have hm56 : m % 64 = 56 := by omega
      have hm3 : m ≤ 200 := by omega
      rw [hP] at HO
      have HP := Lib.hid hP
      have HPl := Lib.hid hPl
      have HM56 := Lib.hid hm56
      clear hm hm2 hzn hr4 hP hPl hz hk hm56 HM HM2
      go_wp2_with fail
      go_loopw [34, 4] (fun i v wr => ∃ k : Nat, k ≤ 8 ∧ i = .int .i64 k ∧ Hid (OwnB B 5 wr v (P ++ lenB n k)) ∧ Hid (Below B w2 wr) ∧ B ≤ wr.heap.size) (fun i _ _ => 8 - (intOf i).toNat)
      case atStart => exact ⟨0, Nat.zero_le _, rfl, by simpa [lenB] using HO, HB, hsz⟩
      case round =>
        clear hsz HB HO hbe hc
        obtain ⟨k, hk, rfl, HO, HB, hsz⟩ := hrel
        by_cases h8 : k < 8
        · obtain ⟨t, ht⟩ : ∃ t, 56 - 8 * k = t := ⟨_, rfl⟩
          have e1 : (56 : Int) - 8 * (k : Int) = (t : Int) := by omega
          have ht0 : (0 : Int) ≤ t := by omega
          have ht1 : (t : Int) ≤ 56 := by omega
          have hk0 : (0 : Int) ≤ k := by omega
          have hk8 : (k : Int) ≤ 7 := by omega
          have hn0 : (0 : Int) ≤ n := by omega
          have hnn : (n : Int) ≤ 1152921504606846975 := by omega
          obtain ⟨y, hy⟩ : ∃ y, n * 8 / 2 ^ t = y := ⟨_, rfl⟩
          have e2 : (n : Int) * 8 / 2 ^ t = (y : Int) := by rw [← hy]; simp
          have c9 := (HK2.out.ext (by rw [HBe.out]; exact HB.out)).cell (hcs_8 HX.out (.slice R r.length c0) n).2.1
          have hgl4 : g < wr.heap.size := by omega
          have HS : Hid (∀ _ : Unit, lenB n k ++ [UInt8.ofNat y] = lenB n (k + 1)) := Lib.hid fun _ => by rw [← lenB_snoc, ht, hy]
          have HLk : Hid ((P ++ lenB n k).length = m + k) := Lib.hid (by rw [List.length_append, HPl.out, lenB_length])
          clear ht hy
          go_wp2_with ((with_reducible refine (?_ : wpList _ _ _ (_ :: _) _ _)); at_builtin; refine wpList_appB rfl _ _ 22 rfl B 5 Tryd.underlying22 infoB _ (P ++ lenB n k) rfl (HO.out.ext (ext_alloc _ _)) _ _ _ [UInt8.ofNat y] rfl rfl (RB.lit1 _ _ _ (UInt8.ofNat y) (by simp)) (by rw [HLk.out]; simp; omega) (by simp; omega) ?_)
          intro v5 w5 ho hg5 _
          have hb := (HO.out.ext (ext_alloc _ _)).below (HB.out.alloc hsz _) hg5 (by simp; omega)
          have hsz5 := hb.size
          rw [HBe.out] at hsz5
          rw [HS.out ()] at ho
          have HO5 := Lib.hid ho
          have HB5 := Lib.hid hb
          clear ho hb hg5 e1 e2 c9
          go_wp2
          exact ⟨⟨k + 1, by omega, by go_num, HO5, HB5, hsz5⟩, by simp [intOf]; omega⟩
        · obtain rfl : k = 8 := by omega
          obtain ⟨E, hE⟩ : ∃ E, P ++ lenB n 8 = E := ⟨_, rfl⟩
          have hEl : E.length = m + 8 := by rw [← hE, List.length_append, HPl.out, lenB_length]
          rw [hE] at HO
          have HE : Hid (∀ _ : Unit, endL r n = E) := Lib.hid fun _ => by unfold endL; rw [HP.out, hE]
          obtain ⟨A, c, rfl, hr6, hc6, _⟩ := HO.out.form
          obtain ⟨g7, cc, e7, hg7, hg7', _⟩ := HO.out.block (by omega)
          injection e7 with ea eb ec
          subst ea ec
          rw [hEl] at hc6 ⊢
          have HEl := Lib.hid hEl
          have HR6 := Lib.hid hr6
          have hW := hcs_at (HK2.out.ext (by rw [HBe.out]; exact HB.out))
          have HWA := Lib.hid hW
          clear hE hEl hr6 eb hW h8 hk HO
          go_wp2_with (refine wpList_load_wa rfl 27 _ rfl g 0 rfl x _ HWA.out Tryd.underlying27 rfl (info8l x HX.out) ?_)
          intro v0 HV0
          go_wp2_with ((with_reducible refine (?_ : wpList _ _ _ [_] _ _)); refine wpList_store_wa rfl 27 _ _ rfl wr.heap.size x rfl HV0.out 27 _ (heap_new wr _ rfl) (info8 x HX.out) (by simp [HX.out]) ?_)
          intro w6 hW6 hg6 hs6
          have hb6 := below_grown (HB.out.alloc hsz _) hg6 (by simp; omega) (by omega)
          have HR7 := Lib.hid ((HR6.out.ext (ext_alloc wr _)).grown hg6 (fun _ _ _ e => by cases e; omega))
          obtain ⟨gs, hgs⟩ : ∃ gs, wr.heap.size = gs := ⟨_, rfl⟩
          rw [hgs] at hW6 hg7' hsz
          have hgs6 : gs < w6.heap.size := hW6.lt
          have hsz6 : B ≤ w6.heap.size := by omega
          rw [hgs]
          have HK6 : Hid (BK w6 gs 27 ((hashTo x E 0).map vw)) := Lib.hid hW6
          have HB6 := Lib.hid hb6
          clear hgs hW6 hg6 hs6 hb6 HV0 HB HWA HR6
          go_wp2_with fail
          go_loopw [4] (fun v wr => ∃ (j m1 c1 : Nat) (A1 : Option Addr), v = .slice A1 m1 c1 ∧ m1 ≤ c1 ∧ m1 ≤ 300 ∧ Hid (64 * j + m1 = m + 8) ∧ Hid (RB wr A1 (E.drop (64 * j))) ∧ Hid (Off gs A1) ∧
            Hid (BK wr gs 27 ((hashTo x E j).map vw)) ∧ Hid (Below B w2 wr) ∧ B ≤ wr.heap.size) (fun v _ => lenV v)
          case atStart => exact ⟨0, m + 8, c, _, rfl, hc6, by omega, Lib.hid (by omega), HR7, Lib.hid (fun _ _ e => by cases e; omega), HK6, HB6, hsz6⟩
          case round =>
            clear HK6 HB6 hsz6 HR7 hc6
            obtain ⟨j, m1, c1, A1, rfl, hmc, hm1, HM, HR, HF, HK, HB, hsz⟩ := hrel
            by_cases h64 : 0 < m1
            · have hm64 : 64 ≤ m1 := by have := HM.out; have := HM56.out; omega
              have hdl : (E.drop (64 * j)).length = m1 := by rw [List.length_drop, HEl.out]; have := HM.out; omega
              obtain ⟨b1, o1, rfl, _⟩ := HR.out 0 (by omega)
              have HRT := Lib.hid (HR.out.take 64)
              have htl : ((E.drop (64 * j)).take 64).length = 64 := by rw [List.length_take, hdl]; omega
              have HTK := Lib.hid htl
              have HDL := Lib.hid hdl
              have HT := Lib.hid (HT2.out.ext (by rw [HBe.out]; exact HB.out))
              clear htl hdl
              by_cases hc : c1 = 64
              · obtain rfl : m1 = 64 := by omega
                subst hc
                go_wp2_with fail
                refine (stir_calls gs 0 (hashTo x E j) (hashTo_length E HX.out j) (hashTo_words E HXW.out j) _ 64 _ wr HRT.out HTK.out HT.out (WA.at HK.out)).mono ?_
                rintro e w' ⟨rfl, wm, hbm, rfl⟩
                obtain ⟨w5, hw5⟩ : ∃ w5, wm.setCells gs 0 (List.map vw (stirL (hashTo x E j) (List.take 64 (List.drop (64 * j) E)))) = w5 := ⟨_, rfl⟩
                obtain ⟨hk, hg⟩ := state_round (hashTo_length E HX.out j) HK.out hbm hw5.symm
                rw [hw5]
                have HK5 : Hid (BK w5 gs 27 ((hashTo x E (j + 1)).map vw)) := Lib.hid hk
                have hb5 := below_grown HB.out hg hsz (by omega)
                have hsz5 : B ≤ w5.heap.size := by have := hg.size; omega
                have HB5 := Lib.hid hb5
                clear hw5 hbm hk hg hb5 HK HB HT HRT
                go_wp2
                refine ⟨⟨j + 1, 0, 0, _, rfl, Nat.le_refl _, Nat.zero_le _, Lib.hid (by have := HM.out; omega), Lib.hid ?_, HF, HK5, HB5, hsz5⟩, by simp [lenV]⟩
                rw [List.drop_eq_nil_of_le (by rw [HEl.out]; have := HM.out; omega)]
                exact RB.nil _ _
              · go_wp2_with fail
                refine (stir_calls gs 0 (hashTo x E j) (hashTo_length E HX.out j) (hashTo_words E HXW.out j) _ c1 _ wr HRT.out HTK.out HT.out (WA.at HK.out)).mono ?_
                rintro e w' ⟨rfl, wm, hbm, rfl⟩
                obtain ⟨w5, hw5⟩ : ∃ w5, wm.setCells gs 0 (List.map vw (stirL (hashTo x E j) (List.take 64 (List.drop (64 * j) E)))) = w5 := ⟨_, rfl⟩
                obtain ⟨hk, hg⟩ := state_round (hashTo_length E HX.out j) HK.out hbm hw5.symm
                rw [hw5]
                have HK5 : Hid (BK w5 gs 27 ((hashTo x E (j + 1)).map vw)) := Lib.hid hk
                have hb5 := below_grown HB.out hg hsz (by omega)
                have hsz5 : B ≤ w5.heap.size := by have := hg.size; omega
                have HB5 := Lib.hid hb5
                have hr5 := (HR.out.grown hg fun _ => HF.out).drop 64
                rw [drop_next] at hr5
                have HR5 := Lib.hid hr5
                clear hw5 hbm hk hg hb5 hr5 HK HB HT HRT HR
                go_wp2
                exact ⟨⟨j + 1, m1 - 64, c1 - 64, _, rfl, by omega, by omega, Lib.hid (by have := HM.out; omega), HR5, Lib.hid (fun _ _ e => by cases e; exact HF.out b1 o1 rfl), HK5, HB5, hsz5⟩, by simp [lenV]; omega⟩
            · obtain rfl : m1 = 0 := by omega
              have hjE : E.length / 64 = j := by rw [HEl.out]; have := HM.out; omega
              have hxj : Hid (∀ _ : Unit, hashTo x E (E.length / 64) = hashTo x E j) := Lib.hid fun _ => by rw [hjE]
              have hXw := hashTo_words E HXW.out j
              obtain ⟨X, hX⟩ : ∃ X, hashTo x E j = X := ⟨_, rfl⟩
              have hXl : X.length = 8 := by rw [← hX]; exact hashTo_length E HX.out j
              rw [hX] at HK hXw
              have HXE : Hid (∀ _ : Unit, sumX x r n = outL X 32) := Lib.hid fun _ => by unfold sumX; rw [HE.out (), hxj.out (), hX]
              have HXw := Lib.hid hXw
              have HXl := Lib.hid hXl
              have HZ3' := Lib.hid (HZ3.out.ext (by rw [HBe.out]; exact HB.out))
              have HZ2' := Lib.hid (HZ2.out.ext (by rw [HBe.out]; exact HB.out))
              have HBs := Lib.hid (HB2.out.trans (HB.out.mono (by omega)))
              clear hjE hX hXw hXl HB HR HF HM h64
              go_wp2_with fail
              go_loopw [64] (fun i wr => ∃ k : Nat, k ≤ 32 ∧ i = .int .i64 k ∧ Hid (BK wr (s + 1) 33 ((outL X k).map vb ++ List.replicate (32 - k) (Value.int .u8 0))) ∧ Hid (BK wr s 33 (List.replicate 32 (Value.int .u8 0))) ∧
                Hid (BK wr gs 27 (X.map vw)) ∧ Hid (Below s w wr)) (fun i _ => 32 - (intOf i).toNat)
              case atStart => exact ⟨0, Nat.zero_le _, rfl, by simpa [outL] using HZ3', HZ2', HK, HBs⟩
              case round =>
                clear HK HZ3' HZ2' HBs hsz
                obtain ⟨k, hk, rfl, HZ3, HZ2, HK, HBs⟩ := hrel
                by_cases h32 : k < 32
                · obtain ⟨q, hq⟩ : ∃ q, k / 4 = q := ⟨_, rfl⟩
                  obtain ⟨p, hp⟩ : ∃ p, k % 4 = p := ⟨_, rfl⟩
                  obtain ⟨t, ht⟩ : ∃ t, 24 - 8 * p = t := ⟨_, rfl⟩
                  have e1 : (k : Int) / 4 = (q : Int) := by omega
                  have e2 : (k : Int) % 4 = (p : Int) := by omega
                  have e3 : (24 : Int) - 8 * (p : Int) = (t : Int) := by omega
                  have b1 : (0 : Int) ≤ q := by omega
                  have b2 : (q : Int) < 8 := by omega
                  have b3 : (0 : Int) ≤ p := by omega
                  have b4 : (p : Int) ≤ 3 := by omega
                  have b5 : (0 : Int) ≤ t := by omega
                  have b6 : (t : Int) ≤ 24 := by omega
                  have b7 : (0 : Int) ≤ k := by omega
                  have b8 : (k : Int) ≤ 31 := by omega
                  obtain ⟨xv, hxv⟩ : ∃ v, gw X q = v := ⟨_, rfl⟩
                  have b9 : xv < 4294967296 := by rw [← hxv]; exact HXw.out q
                  have cq := WA.cell (l := X) HK.out q (by rw [HXl.out]; omega)
                  rw [hxv] at cq
                  obtain ⟨y, hy⟩ : ∃ y, xv / 2 ^ t = y := ⟨_, rfl⟩
                  have e4 : (xv : Int) / 2 ^ t = (y : Int) := by rw [← hy]; simp
                  have ck := HZ3.out.cell (i := k) (v := Value.int .u8 0) (by rw [List.getElem?_append_right (by simp [outL]), List.length_map, outL_length, Nat.sub_self, List.getElem?_replicate, if_pos (by omega)])
                  have fk := HZ3.out.frozen k
                  have hob : vb (outB X k) = Value.int .u8 ((y : Int) % 256) := by unfold outB; rw [hq, hp, ht, hxv, hy, vb_ofNat]; simp
                  have hk3 := HZ3.out.set k (vb (outB X k))
                  rw [outL_set X k h32, hob] at hk3
                  have hgk := grown_setCell wr (s + 1) k (Value.int .u8 ((y : Int) % 256))
                  have HK3 := Lib.hid hk3
                  have HK4 := Lib.hid (HZ2.out.same (hgk.block s HZ2.out.lt (by simp)))
                  have HK5 := Lib.hid (HK.out.same (hgk.block gs HK.out.lt (fun e => by have := Option.some.inj e; omega)))
                  have hb := below_grown HBs.out hgk (by have := HBs.out.size; rw [HW.out] at this; exact this) (by omega)
                  have HB5 := Lib.hid hb
                  clear hq hp ht hxv hy hob hk3 hgk hb HK HBs HZ2 HZ3
                  go_wp2
                  exact ⟨⟨k + 1, by omega, by go_num, HK3, HK4, HK5, HB5⟩, by simp [intOf]; omega⟩
                · obtain rfl : k = 32 := by omega
                  obtain ⟨O, hO⟩ : ∃ O, outL X 32 = O := ⟨_, rfl⟩
                  have hOl : O.length = 32 := by rw [← hO]; exact outL_length _ _
                  have hz3 : Hid (wr.heap[s + 1]? = some (.cells (O.map vb).toArray 33 (0, 0))) := Lib.hid (by have := HZ3.out; rw [hO] at this; simpa [BK] using this)
                  have hz2 : Hid (wr.heap[s]? = some (.cells (List.replicate 32 (Value.int .u8 0)).toArray 33 (0, 0))) := Lib.hid HZ2.out
                  have HIN := Lib.hid (info32 O hOl)
                  have HONE : Hid ((O.map vb).toArray.all (·.oneCell') = true) := Lib.hid (by simp [vb, Value.oneCell'])
                  have HZS : Hid ((List.replicate 32 (Value.int .u8 0)).toArray.size = (O.map vb).toArray.size) := Lib.hid (by simp [hOl])
                  have HO := Lib.hid hO
                  clear hOl hO h32 hk HZ3 HZ2 HK
                  go_wp2_with (first | (refine wpList_load_row rfl 33 _ rfl (s + 1) rfl 33 _ (0, 0) _ hz3.out Tryd.underlying33 rfl HIN.out ?_) | (refine wpList_store_row rfl 33 _ _ rfl s _ rfl rfl 33 _ hz2.out HIN.out HZS.out HONE.out ?_))
                  have HR : (wr.setRow s (O.map vb).toArray).heap[s]? = some (.cells (O.map vb).toArray 33 (0, 0)) := setRow_heap wr s _ _ _ _ hz2.out
                  have HBR := Below.setRow HBs.out (Nat.le_refl s) (O.map vb).toArray
                  refine bodyPost_ret (results_cell_row rfl _ _ s 33 _ (0, 0) _ rfl HR Tryd.underlying33 rfl HIN.out) rfl ?_
                  exact ⟨by rw [HXE.out (), HO.out], by rw [HW.out]; exact HBR⟩

theorem sum_calls (g : Nat) (R : Option Addr) (L : List UInt8) (w : World) (hH : HashIs w g R L) (hT : Tabs w) (hn : L.length ≤ 1152921504606846975) :
    Calls Tryd.prog 11 #[.pointer (some ⟨g, 0, none⟩)] w fun e w' => e = .returned (.agg ((sumL L).map vb).toArray) ∧ Below w.heap.size w w' := by
  obtain ⟨c0, hK, hR, hc⟩ := hH
  exact sum_core g (hashL L) (hashL_length L) (hashL_words L) R c0 (restL L) L.length w hK hR hT (by rw [restL_length]; omega) hn
theorem sumL_length (L : List UInt8) : (sumL L).length = 32 := outL_length _ _
end Go.Proofs.YtchbnablefoemaaDoor
