/- digest: Sum of nobody, Of, the example awake. -/
import Derived.Test.YtchbnablefoemaaDoorHashC
import Derived.Test.YtchbnablefoemaaDoorEqArr
import Derived.Test.YtchbnablefoemaaDoorClone
import Derived.Test.YtchbnablefoemaaDoorConcat
namespace Go.Proofs.YtchbnablefoemaaDoor
open Go.RowKit
set_option linter.unusedVariables false

def zeros32 : List UInt8 := List.replicate 32 0
theorem zeros32_vb : (zeros32.map vb).toArray = (List.replicate 32 (Value.int .u8 0)).toArray := rfl
set_option maxRecDepth 8000 in
set_option maxHeartbeats 1000000 in
theorem sum_nil (w : World) :
    Calls Tryd.prog 11 #[.pointer none] w fun e w' => e = .returned (.agg (zeros32.map vb).toArray) ∧ Below w.heap.size w w' := by
  go_enter Tryd.func11, Tryd.ntmps11
  go_upto_region 3 with fail
  refine name_world (fun w2 => BK w2 w.heap.size 33 (List.replicate 32 (.int .u8 0)) ∧ BK w2 (w.heap.size + 1) 33 (List.replicate 32 (.int .u8 0)) ∧ Below w.heap.size w w2 ∧ w2.heap.size = w.heap.size + 2)
    ⟨heap_old (heap_new w _ rfl), heap_new (w.alloc _) _ (by simp), (ext_alloc w _).alloc (by simp) _, by simp⟩ ?_
  rintro w2 ⟨hz2, hz3, hb2, hs2⟩
  have h3 : Hid (w2.heap[w.heap.size + 1]? = some (.cells (zeros32.map vb).toArray 33 (0, 0))) := Lib.hid hz3
  have h2 : Hid (w2.heap[w.heap.size]? = some (.cells (List.replicate 32 (Value.int .u8 0)).toArray 33 (0, 0))) := Lib.hid hz2
  have HIN := Lib.hid (info32 zeros32 rfl)
  have HONE : Hid ((zeros32.map vb).toArray.all (·.oneCell') = true) := Lib.hid (by simp [vb, Value.oneCell'])
  have HZS : Hid ((List.replicate 32 (Value.int .u8 0)).toArray.size = (zeros32.map vb).toArray.size) := Lib.hid rfl
  have HB := Lib.hid hb2
  clear hz2 hz3 hb2 hs2
  go_wp2_with (first | (refine wpList_load_row rfl 33 _ rfl (w.heap.size + 1) rfl 33 _ (0, 0) _ h3.out Tryd.underlying33 rfl HIN.out ?_) | (refine wpList_store_row rfl 33 _ _ rfl w.heap.size _ rfl rfl 33 _ h2.out HIN.out HZS.out HONE.out ?_))
  have HR : (w2.setRow w.heap.size (zeros32.map vb).toArray).heap[w.heap.size]? = some (.cells (zeros32.map vb).toArray 33 (0, 0)) := setRow_heap w2 _ _ _ _ _ h2.out
  refine bodyPost_ret (results_cell_row rfl _ _ w.heap.size 33 _ (0, 0) _ rfl HR Tryd.underlying33 rfl HIN.out) rfl ?_
  exact ⟨rfl, Below.setRow HB.out (Nat.le_refl _) _⟩
set_option maxRecDepth 8000 in
set_option maxHeartbeats 1000000 in
theorem sum_unmade (g : Nat) (w : World) (h : w.cell? ⟨g, 10, none⟩ = some (.bool false)) :
    Calls Tryd.prog 11 #[.pointer (some ⟨g, 0, none⟩)] w fun e w' => e = .returned (.agg (zeros32.map vb).toArray) ∧ Below w.heap.size w w' := by
  have hgl := World.block_lt_of_cell? w _ h
  go_enter Tryd.func11, Tryd.ntmps11
  go_upto_region 3 with fail
  refine name_world (fun w2 => BK w2 w.heap.size 33 (List.replicate 32 (.int .u8 0)) ∧ BK w2 (w.heap.size + 1) 33 (List.replicate 32 (.int .u8 0)) ∧ Below w.heap.size w w2 ∧ w2.heap.size = w.heap.size + 2)
    ⟨heap_old (heap_new w _ rfl), heap_new (w.alloc _) _ (by simp), (ext_alloc w _).alloc (by simp) _, by simp⟩ ?_
  rintro w2 ⟨hz2, hz3, hb2, hs2⟩
  have h3 : Hid (w2.heap[w.heap.size + 1]? = some (.cells (zeros32.map vb).toArray 33 (0, 0))) := Lib.hid hz3
  have h2 : Hid (w2.heap[w.heap.size]? = some (.cells (List.replicate 32 (Value.int .u8 0)).toArray 33 (0, 0))) := Lib.hid hz2
  have HIN := Lib.hid (info32 zeros32 rfl)
  have HONE : Hid ((zeros32.map vb).toArray.all (·.oneCell') = true) := Lib.hid (by simp [vb, Value.oneCell'])
  have HZS : Hid ((List.replicate 32 (Value.int .u8 0)).toArray.size = (zeros32.map vb).toArray.size) := Lib.hid rfl
  have HB := Lib.hid hb2
  clear hz2 hz3 hb2 hs2 h
  go_wp2_with (first | (refine wpList_load_row rfl 33 _ rfl (w.heap.size + 1) rfl 33 _ (0, 0) _ h3.out Tryd.underlying33 rfl HIN.out ?_) | (refine wpList_store_row rfl 33 _ _ rfl w.heap.size _ rfl rfl 33 _ h2.out HIN.out HZS.out HONE.out ?_))
  have HR : (w2.setRow w.heap.size (zeros32.map vb).toArray).heap[w.heap.size]? = some (.cells (zeros32.map vb).toArray 33 (0, 0)) := setRow_heap w2 _ _ _ _ _ h2.out
  refine bodyPost_ret (results_cell_row rfl _ _ w.heap.size 33 _ (0, 0) _ rfl HR Tryd.underlying33 rfl HIN.out) rfl ?_
  exact ⟨rfl, Below.setRow HB.out (Nat.le_refl _) _⟩

theorem catTo_le {ls : List (List UInt8)} {M : Nat} (h : (catTo ls ls.length).length ≤ M) (k : Nat) (hk : k ≤ ls.length) : (catTo ls k).length ≤ M := by
  have := catTo_mono ls k (ls.length - k)
  rw [show k + (ls.length - k) = ls.length by omega] at this
  omega
theorem part_le {ls : List (List UInt8)} {M : Nat} (h : (catTo ls ls.length).length ≤ M) (k : Nat) (hk : k < ls.length) : (ls.getD k []).length ≤ M := by
  have := catTo_le h (k + 1) hk
  have e : (catTo ls (k + 1)).length = (catTo ls k).length + (ls.getD k []).length := List.length_append
  omega

set_option maxRecDepth 8000 in
set_option maxHeartbeats 1000000 in
theorem of_calls (A : Option Addr) (c : Nat) (ls : List (List UInt8)) (w : World) (hT : Tabs w) (h : RBB w A ls) (hn : ls.length ≤ 140737488351232) (htot : (catTo ls ls.length).length ≤ 140737488351232) :
    Calls Tryd.prog 13 #[.slice A ls.length c] w fun e w' => e = .returned (.agg ((sumL (catTo ls ls.length)).map vb).toArray) ∧ Below w.heap.size w w' := by
  have HT := Lib.hid hT
  have H := Lib.hid h
  have HTOT := Lib.hid htot
  have HTL := Lib.hid hT.lt
  clear hT h htot
  go_enter Tryd.func13, Tryd.ntmps13
  go_upto_region 1 with fail
  refine name_world (fun w2 => BK w2 w.heap.size 33 (List.replicate 32 (.int .u8 0)) ∧ Below w.heap.size w w2 ∧ w2.heap.size = w.heap.size + 1)
    ⟨heap_new w _ rfl, ext_alloc w _, by simp⟩ ?_
  rintro w2 ⟨hz2, hb2, hs2⟩
  have HZ2 := Lib.hid hz2
  have HB2 := Lib.hid hb2
  have HS2 := Lib.hid hs2
  clear hz2 hb2 hs2
  go_wp2_with fail
  refine (new_calls w2 (HT.out.ext HB2.out)).mono ?_
  rintro e w3 ⟨rfl, hh3, hb3⟩
  obtain ⟨g, hg⟩ : ∃ g, w2.heap.size = g := ⟨_, rfl⟩
  rw [hg] at hh3
  rw [hg]
  have hgw : w.heap.size < g := by have := HS2.out; omega
  have HG := Lib.hid hg
  have HGW := Lib.hid hgw
  have HB3 : Hid (Below g w2 w3) := by rw [← hg]; exact Lib.hid hb3
  have HH3 : Hid (HashIs w3 g none (catTo ls 0)) := Lib.hid hh3
  have hg3 : g < w3.heap.size := hh3.lt
  clear hg hgw hh3 hb3
  go_wp2_with fail
  go_loopw [9] (fun i wr => ∃ (k : Nat) (R : Option Addr), k ≤ ls.length ∧ i = .int .i64 k ∧ Hid (HashIs wr g R (catTo ls k)) ∧ Hid (Off g R) ∧ Hid (Below g w2 wr) ∧ g < wr.heap.size) (fun i _ => ls.length - (intOf i).toNat)
  case atStart => exact ⟨0, none, Nat.zero_le _, rfl, HH3, Lib.hid (fun _ _ e => by cases e), HB3, hg3⟩
  case round =>
    clear HH3 HB3 hg3
    obtain ⟨k, R, hk, rfl, HH, HO, HB, hgs⟩ := hrel
    have HBw : Hid (Below w.heap.size w wr) := Lib.hid (HB2.out.trans (HB.out.mono (by have := HGW.out; omega)))
    by_cases h1 : k < ls.length
    · obtain ⟨b, o, A', c', rfl, hc, hr, hl', hoff⟩ := H.out.part HBw.out h1
      have hb1 := part_le HTOT.out k h1
      have hcat := catTo_le HTOT.out k hk
      have hoff2 := hoff g (by have := HGW.out; omega)
      have HR := Lib.hid hr
      have HOF := Lib.hid hoff2
      have HSn : Hid (catTo ls (k + 1) = catTo ls k ++ ls.getD k []) := Lib.hid rfl
      have HLc := Lib.hid hcat
      generalize ls.getD k [] = p at *
      clear hr hoff2 hoff hcat
      go_wp2_with fail
      refine (write_calls g R (catTo ls k) wr HH.out HO.out (HT.out.ext HBw.out) (by have := HTL.out; have := HGW.out; omega) (by have := HTL.out; have := HGW.out; omega) A' c' p HR.out HOF.out hb1 (by have := HLc.out; omega)).mono ?_
      rintro e w5 ⟨rfl, R5, hh, hf, hg5⟩
      rw [← HSn.out] at hh
      have hgs5 : g < w5.heap.size := hh.lt
      have hb5 := below_grown HB.out hg5 (by omega) (Nat.le_refl _)
      have HH5 := Lib.hid hh
      have HO5 := Lib.hid (hf.off hgs)
      have HB5 := Lib.hid hb5
      clear hh hf hg5 hb5 HH HO HB HBw HR
      go_wp2
      exact ⟨⟨k + 1, R5, by omega, by go_num, HH5, HO5, HB5, hgs5⟩, by simp [intOf]; omega⟩
    · obtain rfl : k = ls.length := by omega
      go_wp2_with fail
      refine (sum_calls g R (catTo ls ls.length) wr HH.out (HT.out.ext HBw.out) (by have := HTOT.out; omega)).mono ?_
      rintro e w6 ⟨rfl, hb6⟩
      obtain ⟨O, hO⟩ : ∃ O, sumL (catTo ls ls.length) = O := ⟨_, rfl⟩
      have hOl : O.length = 32 := by rw [← hO]; exact sumL_length _
      rw [hO]
      have HBw6 := Lib.hid (HBw.out.trans (hb6.mono (by have := HBw.out.size; omega)))
      have hz : Hid (w6.heap[w.heap.size]? = some (.cells (List.replicate 32 (Value.int .u8 0)).toArray 33 (0, 0))) :=
        Lib.hid ((hb6.block _ (by have := HGW.out; omega)).trans ((HB.out.block _ (by have := HGW.out; omega)).trans HZ2.out))
      have HIN := Lib.hid (info32 O hOl)
      have HONE : Hid ((O.map vb).toArray.all (·.oneCell') = true) := Lib.hid (by simp [vb, Value.oneCell'])
      have HZS : Hid ((List.replicate 32 (Value.int .u8 0)).toArray.size = (O.map vb).toArray.size) := Lib.hid (by simp [hOl])
      have HO' := Lib.hid hO
      clear hO hOl hb6 HH HO HB HBw
      go_wp2_with (refine wpList_store_row rfl 33 _ _ rfl w.heap.size _ rfl rfl 33 _ hz.out HIN.out HZS.out HONE.out ?_)
      have HR : (w6.setRow w.heap.size (O.map vb).toArray).heap[w.heap.size]? = some (.cells (O.map vb).toArray 33 (0, 0)) := setRow_heap w6 _ _ _ _ _ hz.out
      refine bodyPost_ret (results_cell_row rfl _ _ w.heap.size 33 _ (0, 0) _ rfl HR Tryd.underlying33 rfl HIN.out) rfl ?_
      exact ⟨by rw [HO'.out], Below.setRow HBw6.out (Nat.le_refl _) _⟩

/-! ### the example -/
def abc : List (List UInt8) := [[97], [98, 99]]
theorem abc_sum : gb (sumL (catTo abc abc.length)) 0 = 186 ∧ gb (sumL (catTo abc abc.length)) 1 = 120 ∧ gb (sumL (catTo abc abc.length)) 31 = 173 := by decide +kernel
end Go.Proofs.YtchbnablefoemaaDoor
