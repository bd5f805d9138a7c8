/- The walk of the law RabinNobody. -/
import Derived.Test.YtjlocegopdepeaaRabH
namespace Go.Proofs.Ytjlocegopdepeaa
open Go.RowKit
set_option linter.unusedVariables false
def table0 : List Value := tcs 0 0 zs zs 0
def roller0 : List Value := rcs (.pointer none) zs16 0 0

set_option maxRecDepth 8000 in
set_option maxHeartbeats 1600000 in
theorem nobody_walk (w : World) (A : Option Addr) (c : Nat) (l : List UInt8) (h : RB w A l) (hc : l.length ≤ c) (hl : l.length ≤ 140737488351232) (x : Nat) (hx : x ≤ 255) :
    Calls Try.prog 13 #[.slice A l.length c, .int .u8 (x : Int)] w fun e w' => e = .returned (.bool true) ∧ Below w.heap.size w w' := by
  clear h
  by_cases hs : 8192 < l.length
  · go_enter Try.func13, Try.ntmps13
    go_wp2_with fail
    refine (awake_calls w).mono ?_
    rintro e w2 ⟨rfl, hb⟩
    have HB := Lib.hid hb
    clear hb
    go_wp2
    go_ret
    exact ⟨rfl, HB.out⟩
  · go_enter Try.func13, Try.ntmps13
    go_wp2_with fail
    refine name_world (fun w2 => BK w2 w.heap.size 61 table0 ∧ BK w2 (w.heap.size + 1) 29 [.pointer none, .pointer (some ⟨w.heap.size, 0, none⟩)] ∧ Below w.heap.size w w2)
      ⟨by rw [zero_table]; exact heap_old (heap_new w _ rfl), heap_new (w.alloc _) _ (by simp), (ext_alloc w _).alloc (by simp) _⟩ ?_
    rintro w2 ⟨hz2, hz3, hb2⟩
    have HZ2 := Lib.hid hz2
    have HZ3 := Lib.hid hz3
    have HB2 := Lib.hid hb2
    clear hz2 hz3 hb2
    go_loop [17] (fun i => ∃ k : Nat, k ≤ 2 ∧ i = .int .i64 k) (fun i => 2 - (intOf i).toNat)
    case atStart => exact ⟨0, Nat.zero_le _, rfl⟩
    case round =>
      obtain ⟨k, hk, rfl⟩ := hrel
      have c0 := HZ3.out.cell (i := 0) rfl
      have c1 := HZ3.out.cell (i := 1) rfl
      have c2 : w2.cell? ⟨w.heap.size, 515, none⟩ = some (.int .u64 0) := HZ2.out.cell (i := 515) (by kernel_rfl)
      by_cases h2 : k < 2
      · by_cases h0 : k = 0
        · subst h0
          clear c1 c2
          go_wp2_with fail
          refine (poly_nil _).mono ?_
          rintro e w3 ⟨rfl, rfl⟩
          go_wp2_with fail
          refine (print_nil _ _ _ _).mono ?_
          rintro e w3 ⟨rfl, rfl⟩
          go_wp2_with fail
          refine (roll_nil _).mono ?_
          rintro e w3 ⟨rfl, rfl⟩
          clear c0
          go_wp2
          exact ⟨⟨1, by omega, rfl⟩, by simp [intOf]⟩
        · obtain rfl : k = 1 := by omega
          clear c0
          go_wp2_with fail
          refine (poly_calls _ 0 _ c2).mono ?_
          rintro e w3 ⟨rfl, rfl⟩
          go_wp2_with fail
          refine (print_unmade _ _ _ _ _ c2).mono ?_
          rintro e w3 ⟨rfl, rfl⟩
          go_wp2_with fail
          refine (roll_unmade _ _ c2).mono ?_
          rintro e w3 ⟨rfl, rfl⟩
          clear c1 c2
          go_wp2
          exact ⟨⟨2, by omega, rfl⟩, by simp [intOf]⟩
      · obtain rfl : k = 2 := by omega
        clear c0 c1 c2
        go_wp2_with fail
        refine name_world (fun w3 => BK w3 w2.heap.size 67 roller0 ∧ BK w3 (w2.heap.size + 1) 38 [.pointer none, .pointer (some ⟨w2.heap.size, 0, none⟩)] ∧ Below w.heap.size w w3)
          ⟨heap_old (heap_new w2 _ rfl), heap_new (w2.alloc _) _ (by simp), HB2.out.trans (((ext_alloc w2 _).alloc (by simp) _).mono HB2.out.size)⟩ ?_
        rintro w3 ⟨hz2, hz3, hb2⟩
        have HY2 := Lib.hid hz2
        have HY3 := Lib.hid hz3
        have HB3 := Lib.hid hb2
        clear hz2 hz3 hb2
        go_loop [40] (fun i => ∃ k : Nat, k ≤ 2 ∧ i = .int .i64 k) (fun i => 2 - (intOf i).toNat)
        case atStart => exact ⟨0, Nat.zero_le _, rfl⟩
        case round =>
          obtain ⟨k, hk, rfl⟩ := hrel
          have c0 := HY3.out.cell (i := 0) rfl
          have c1 := HY3.out.cell (i := 1) rfl
          have c2 := HY2.out.cell (i := 0) rfl
          by_cases h2 : k < 2
          · by_cases h0 : k = 0
            · subst h0
              clear c1 c2
              go_wp2_with fail
              refine (next_nil x _).mono ?_
              rintro e w4 ⟨rfl, rfl⟩
              clear c0
              go_wp2
              exact ⟨⟨1, by omega, rfl⟩, by simp [intOf]⟩
            · obtain rfl : k = 1 := by omega
              clear c0
              go_wp2_with fail
              refine (next_unmade _ x _ c2).mono ?_
              rintro e w4 ⟨rfl, rfl⟩
              clear c1 c2
              go_wp2
              exact ⟨⟨2, by omega, rfl⟩, by simp [intOf]⟩
          · obtain rfl : k = 2 := by omega
            clear c0 c1 c2
            go_wp2_with fail
            refine (awake_calls w3).mono ?_
            rintro e w4 ⟨rfl, hb⟩
            have HB4 := Lib.hid (ext_trans HB3.out hb)
            clear hb
            go_wp2
            go_ret
            exact ⟨rfl, HB4.out⟩
end Go.Proofs.Ytjlocegopdepeaa
