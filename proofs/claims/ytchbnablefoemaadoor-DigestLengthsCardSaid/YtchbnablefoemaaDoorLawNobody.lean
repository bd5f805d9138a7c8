/- The walk of the law DigestNobody. -/
import Derived.Test.YtchbnablefoemaaDoorHashE
namespace Go.Proofs.YtchbnablefoemaaDoor
open Go.RowKit
set_option linter.unusedVariables false

theorem infoU8 : ∃ i, Tryd.prog.info? 5 = some i ∧ Tryd.prog.cellsOf 5 = 1 := by
  obtain ⟨i, hi, _⟩ := info_parts infoB
  exact ⟨i, hi, by kernel_rfl⟩
theorem eq32 (w : World) (l m : List UInt8) (hl : l.length = 32) (hm : m.length = 32) : (binOp .eql 33 (.agg (l.map vb).toArray) (.agg (m.map vb).toArray)).run Tryd.prog w = .ok (.bool (l == m)) w := by
  obtain ⟨i, hi, hc⟩ := infoU8
  exact run_eql_bytes w Tryd.underlying33 Tryd.underlying5 hi hc l m hl hm
theorem neq32 (w : World) (l m : List UInt8) (hl : l.length = 32) (hm : m.length = 32) : (binOp .neq 33 (.agg (l.map vb).toArray) (.agg (m.map vb).toArray)).run Tryd.prog w = .ok (.bool (!(l == m))) w := by
  obtain ⟨i, hi, hc⟩ := infoU8
  exact run_neq_bytes w Tryd.underlying33 Tryd.underlying5 hi hc l m hl hm
theorem neq32_zero (w : World) : (binOp .neq 33 (.agg (zeros32.map vb).toArray) (.agg #[.int .u8 0, .int .u8 0, .int .u8 0, .int .u8 0, .int .u8 0, .int .u8 0, .int .u8 0, .int .u8 0, .int .u8 0, .int .u8 0, .int .u8 0, .int .u8 0, .int .u8 0, .int .u8 0, .int .u8 0, .int .u8 0, .int .u8 0, .int .u8 0, .int .u8 0, .int .u8 0, .int .u8 0, .int .u8 0, .int .u8 0, .int .u8 0, .int .u8 0, .int .u8 0, .int .u8 0, .int .u8 0, .int .u8 0, .int .u8 0, .int .u8 0, .int .u8 0])).run Tryd.prog w = .ok (.bool false) w := neq32 w zeros32 zeros32 rfl rfl
def hash0 : List Value := [.int .u32 0, .int .u32 0, .int .u32 0, .int .u32 0, .int .u32 0, .int .u32 0, .int .u32 0, .int .u32 0, .slice none 0 0, .int .i64 0, .bool false]

set_option maxRecDepth 8000 in
set_option maxHeartbeats 1000000 in
theorem nobody_walk (w : World) (hT : Tabs w) (A : Option Addr) (c : Nat) (l : List UInt8) (h : RB w A l) (hc : l.length ≤ c) (hl : l.length ≤ 140737488351232) :
    Calls Tryd.prog 3 #[.slice A l.length c] w fun e w' => e = .returned (.bool true) ∧ Below w.heap.size w w' := by
  have HT := Lib.hid hT
  have H := Lib.hid h
  clear hT h
  have kn := neq32_zero
  by_cases hs : 8192 < l.length
  · go_enter Tryd.func3, Tryd.ntmps3
    go_wp2_with fail
    refine (awake_calls _ HT.out).mono ?_
    rintro e w2 ⟨rfl, hb⟩
    have HB := Lib.hid hb
    clear hb
    go_wp2
    go_ret
    exact ⟨rfl, HB.out⟩
  · go_enter Tryd.func3, Tryd.ntmps3
    go_wp2_with fail
    refine name_world (fun w2 => BK w2 w.heap.size 29 hash0 ∧ BK w2 (w.heap.size + 1) 24 [.pointer none, .pointer (some ⟨w.heap.size, 0, none⟩)] ∧ Below w.heap.size w w2 ∧ w2.heap.size = w.heap.size + 2)
      ⟨heap_old (heap_new w _ rfl), heap_new (w.alloc _) _ (by simp), (ext_alloc w _).alloc (by simp) _, by simp⟩ ?_
    rintro w2 ⟨hz2, hz3, hb2, hs2⟩
    have HZ2 := Lib.hid hz2
    have HZ3 := Lib.hid hz3
    have HB2 := Lib.hid hb2
    clear hz2 hz3 hb2 hs2
    go_loopw [13] (fun i wr => ∃ k : Nat, k ≤ 2 ∧ i = .int .i64 k ∧ Hid (Below w2.heap.size w2 wr)) (fun i _ => 2 - (intOf i).toNat)
    case atStart => exact ⟨0, Nat.zero_le _, rfl, Lib.hid (Below.refl _ _)⟩
    case round =>
      obtain ⟨k, hk, rfl, HB⟩ := hrel
      have c0 := (HZ3.out.ext HB.out).cell (i := 0) rfl
      have c1 := (HZ3.out.ext HB.out).cell (i := 1) rfl
      by_cases h2 : k < 2
      · by_cases h0 : k = 0
        · subst h0
          go_wp2_with fail
          refine (write_nil _ _ _ _).mono ?_
          rintro e w3 ⟨rfl, rfl⟩
          go_wp2_with fail
          refine (sum_nil _).mono ?_
          rintro e w3 ⟨rfl, hb3⟩
          have HB3 := Lib.hid (HB.out.trans (hb3.mono HB.out.size))
          clear hb3 c0 c1
          go_wp2
          exact ⟨⟨1, by omega, rfl, HB3⟩, by simp [intOf]⟩
        · obtain rfl : k = 1 := by omega
          go_wp2_with fail
          refine (write_unmade _ _ _ _ _ ((HZ2.out.ext HB.out).cell rfl)).mono ?_
          rintro e w3 ⟨rfl, rfl⟩
          go_wp2_with fail
          refine (sum_unmade _ _ ((HZ2.out.ext HB.out).cell rfl)).mono ?_
          rintro e w3 ⟨rfl, hb3⟩
          have HB3 := Lib.hid (HB.out.trans (hb3.mono HB.out.size))
          clear hb3 c0 c1
          go_wp2
          exact ⟨⟨2, by omega, rfl, HB3⟩, by simp [intOf]⟩
      · obtain rfl : k = 2 := by omega
        clear c0 c1
        have HBw := Lib.hid (HB2.out.trans (HB.out.mono HB2.out.size))
        go_wp2_with fail
        refine (awake_calls _ (HT.out.ext HBw.out)).mono ?_
        rintro e w4 ⟨rfl, hb⟩
        have HB4 := Lib.hid (ext_trans HBw.out hb)
        clear hb
        go_wp2
        go_ret
        exact ⟨rfl, HB4.out⟩
end Go.Proofs.YtchbnablefoemaaDoor
