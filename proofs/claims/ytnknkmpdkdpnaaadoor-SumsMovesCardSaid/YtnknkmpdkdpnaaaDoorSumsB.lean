/- The walks of the great sum: sums.Crc and the reference's. -/
import Derived.Test.YtnknkmpdkdpnaaaDoorProg
import Derived.Test.YtnknkmpdkdpnaaaDoorBase
namespace Go.Proofs.YtnknkmpdkdpnaaaDoor
open Go.RowKit

/-- The table of sums. -/
def nibs : List Nat := [0, 498536548, 997073096, 651767980, 1994146192, 1802195444, 1303535960, 1342533948, 3988292384, 4027552580, 3604390888, 3412177804, 2607071920, 2262029012, 2685067896, 3183342108]
def nib (j : Nat) : Nat := nibs.getD j 0
theorem nib_lt (j : Nat) : nib j < 4294967296 := by
  unfold nib
  rw [List.getD_eq_getElem?_getD]
  by_cases h : j < nibs.length
  · rw [List.getElem?_eq_getElem h]
    simpa using List.all_eq_true.1 (show nibs.all (fun x => decide (x < 4294967296)) = true by decide) _ (List.getElem_mem h)
  · rw [List.getElem?_eq_none (by omega)]
    decide
/-- The table lies where the program has it. -/
def Nib (w : World) : Prop := ∀ j, j < 16 → w.cell? ⟨0, j, none⟩ = some (.int .u32 (nib j : Int))
theorem Nib.ext {w w' : World} (h : Nib w) (e : Below w.heap.size w w') : Nib w' := fun j hj =>
  (e.cell (p := ⟨0, j, none⟩) (World.block_lt_of_cell? w _ (h j hj))).trans (h j hj)

def crcHalf (c : Nat) : Nat := (c / 16) ^^^ nib (c % 16)
def crcByte (c x : Nat) : Nat := crcHalf (crcHalf (c ^^^ x))
theorem crcHalf_lt (c : Nat) (h : c < 4294967296) : crcHalf c < 4294967296 := Nat.xor_lt_two_pow (n := 32) (by omega) (nib_lt _)
theorem crcXor_lt (c x : Nat) (h : c < 4294967296) (hx : x ≤ 255) : c ^^^ x < 4294967296 := Nat.xor_lt_two_pow (n := 32) (by omega) (by omega)
theorem crcByte_lt (c x : Nat) (h : c < 4294967296) (hx : x ≤ 255) : crcByte c x < 4294967296 := crcHalf_lt _ (crcHalf_lt _ (crcXor_lt c x h hx))
/-- The register behind k bytes of a part. -/
def crcTo (l : List UInt8) (c : Nat) : Nat → Nat
  | 0 => c
  | k + 1 => crcByte (crcTo l c k) (gb l k)
theorem crcTo_lt (l : List UInt8) (c k : Nat) (h : c < 4294967296) : crcTo l c k < 4294967296 := by
  induction k with
  | zero => exact h
  | succ k ih => exact crcByte_lt _ _ ih (gb_lt l k)
/-- The register behind k parts. -/
def crcParts (ls : List (List UInt8)) : Nat → Nat
  | 0 => 4294967295
  | k + 1 => crcTo (ls.getD k []) (crcParts ls k) (ls.getD k []).length
theorem crcParts_lt (ls : List (List UInt8)) (k : Nat) : crcParts ls k < 4294967296 := by
  induction k with
  | zero => simp [crcParts]
  | succ k ih => exact crcTo_lt _ _ _ ih
def crcN (ls : List (List UInt8)) : Nat := 4294967295 - crcParts ls ls.length
theorem and_15 (n : Nat) (h : n < 4294967296) : bits .and .u32 (n : Int) 15 = ((n % 16 : Nat) : Int) := by
  rw [show (15 : Int) = ((15 : Nat) : Int) from rfl, and_u32 _ _ h (by decide)]
  congr 1
  exact Nat.and_two_pow_sub_one_eq_mod n 4
theorem half_xor (c : Nat) (h : c < 4294967296) : bits .xor .u32 ((c : Int) / 16) (nib (c % 16) : Int) = ((crcHalf c : Nat) : Int) := by
  rw [show (c : Int) / 16 = ((c / 16 : Nat) : Int) by omega, xor_u32 _ _ (by omega) (nib_lt _)]
  rfl

set_option maxHeartbeats 1000000 in
theorem crc_calls (A : Option Addr) (c : Nat) (ls : List (List UInt8)) (w : World) (hN : Nib w) (h : RBB w A ls) (hn : ls.length ≤ 140737488351232) (hl : ∀ i, i < ls.length → (ls.getD i []).length ≤ 140737488351232) :
    Calls Tryd.prog 14 #[.slice A ls.length c] w fun e w' => e = .returned (.int .u32 (crcN ls : Nat)) ∧ w = w' := by
  have H := Lib.hid h
  clear h
  have HL := Lib.hid hl
  clear hl
  have HN := Lib.hid hN
  clear hN
  go_enter Tryd.func14, Tryd.ntmps14
  go_wp2
  go_loop [3, 10] (fun v i => ∃ k : Nat, k ≤ ls.length ∧ i = .int .i64 k ∧ v = .int .u32 (crcParts ls k : Nat)) (fun _ i => ls.length - (intOf i).toNat)
  case atStart => exact ⟨0, Nat.zero_le _, rfl, rfl⟩
  case round =>
    obtain ⟨k, hk, rfl, rfl⟩ := hrel
    have hb := crcParts_lt ls k
    by_cases hlt : k < ls.length
    · obtain ⟨b, o, A', c', rfl, hc, hr, hl'⟩ := H.out k hlt
      have hlen := HL.out k hlt
      have hs : Hid (crcParts ls (k + 1) = crcTo (ls.getD k []) (crcParts ls k) (ls.getD k []).length) := rfl
      generalize ls.getD k [] = p at *
      generalize crcParts ls k = q at *
      have HR := Lib.hid hr
      clear hr
      go_wp2
      go_loop [3, 16] (fun v i => ∃ j : Nat, j ≤ p.length ∧ i = .int .i64 j ∧ v = .int .u32 (crcTo p q j : Nat)) (fun _ i => p.length - (intOf i).toNat)
      case atStart => exact ⟨0, Nat.zero_le _, rfl, rfl⟩
      case round =>
        obtain ⟨j, hj, rfl, rfl⟩ := hrel
        have hb := crcTo_lt p q j (by assumption)
        have hg := gb_lt p j
        by_cases hlt2 : j < p.length
        · obtain ⟨b2, o2, rfl, hc2⟩ := HR.out j hlt2
          have hs2 : Hid (crcTo p q (j + 1) = crcHalf (crcHalf (crcTo p q j ^^^ gb p j))) := rfl
          generalize crcTo p q j = r at *
          generalize gb p j = x at *
          have x1 := xor_u32 r x hb (by omega)
          have l1 := crcXor_lt r x hb hg
          generalize r ^^^ x = r1 at *
          have x2 := and_15 r1 l1
          have x3 := HN.out (r1 % 16) (by omega)
          have x4 := half_xor r1 l1
          have l2 := crcHalf_lt r1 l1
          generalize crcHalf r1 = r2 at *
          have x5 := and_15 r2 l2
          have x6 := HN.out (r2 % 16) (by omega)
          have x7 := half_xor r2 l2
          go_wp2
          go_round
          case rel => exact ⟨j + 1, by omega, by go_num, by rw [hs2.out]⟩
          case measure => simp [intOf]; omega
        · obtain rfl : j = p.length := by omega
          go_wp2
          go_round
          case rel => exact ⟨k + 1, by omega, by go_num, by rw [hs.out]⟩
          case measure => simp [intOf]; omega
    · obtain rfl : k = ls.length := by omega
      have hx := not_u32 (crcParts ls ls.length) hb
      go_wp2
      go_ret
      exact ⟨rfl, rfl⟩

/-- The reference's: bit by bit. -/
def rbit (c : Nat) : Nat := if c % 2 = 1 then (c / 2) ^^^ 3988292384 else c / 2
def rbits (c : Nat) : Nat → Nat
  | 0 => c
  | k + 1 => rbit (rbits c k)
theorem rbit_lt (c : Nat) (h : c < 4294967296) : rbit c < 4294967296 := by
  unfold rbit
  split
  · exact Nat.xor_lt_two_pow (n := 32) (by omega) (by decide)
  · omega
theorem rbits_lt (c k : Nat) (h : c < 4294967296) : rbits c k < 4294967296 := by
  induction k with
  | zero => exact h
  | succ k ih => exact rbit_lt _ ih
def rcrcTo (l : List UInt8) : Nat → Nat
  | 0 => 4294967295
  | k + 1 => rbits (rcrcTo l k ^^^ gb l k) 8
theorem rcrcTo_lt (l : List UInt8) (k : Nat) : rcrcTo l k < 4294967296 := by
  induction k with
  | zero => simp [rcrcTo]
  | succ k ih => exact rbits_lt _ _ (crcXor_lt _ _ ih (gb_lt l k))
def rcrcN (l : List UInt8) : Nat := 4294967295 - rcrcTo l l.length

set_option maxHeartbeats 1000000 in
theorem rcrc_calls (A : Option Addr) (c : Nat) (l : List UInt8) (w : World) (h : RB w A l) (hn : l.length ≤ 140737488351232) :
    Calls Tryd.prog 27 #[.slice A l.length c] w fun e w' => e = .returned (.int .u32 (rcrcN l : Nat)) ∧ w = w' := by
  have H := Lib.hid h
  clear h
  go_enter Tryd.func27, Tryd.ntmps27
  go_wp2
  go_loop [3, 9] (fun v i => ∃ k : Nat, k ≤ l.length ∧ i = .int .i64 k ∧ v = .int .u32 (rcrcTo l k : Nat)) (fun _ i => l.length - (intOf i).toNat)
  case atStart => exact ⟨0, Nat.zero_le _, rfl, rfl⟩
  case round =>
    obtain ⟨k, hk, rfl, rfl⟩ := hrel
    have hb := rcrcTo_lt l k
    have hg := gb_lt l k
    by_cases hlt : k < l.length
    · obtain ⟨b, o, rfl, hc⟩ := H.out k hlt
      have hs : Hid (rcrcTo l (k + 1) = rbits (rcrcTo l k ^^^ gb l k) 8) := rfl
      generalize rcrcTo l k = q at *
      generalize gb l k = x at *
      have x1 := xor_u32 q x hb (by omega)
      have l1 := crcXor_lt q x hb hg
      generalize q ^^^ x = r at *
      go_wp2
      go_loop [3, 17] (fun v i => ∃ j : Nat, j ≤ 8 ∧ i = .int .i64 j ∧ v = .int .u32 (rbits r j : Nat)) (fun _ i => 8 - (intOf i).toNat)
      case atStart => exact ⟨0, Nat.zero_le _, rfl, rfl⟩
      case round =>
        obtain ⟨j, hj, rfl, rfl⟩ := hrel
        have hb2 := rbits_lt r j (by assumption)
        by_cases hlt2 : j < 8
        · have hs2 : Hid (rbits r (j + 1) = rbit (rbits r j)) := rfl
          generalize rbits r j = s at *
          by_cases h2 : s % 2 = 1
          · have h2' : (((s : Nat) : Int) % 2 == 1) = true := beq_iff_eq.2 (by omega)
            have hs3 : Hid (rbit s = (s / 2) ^^^ 3988292384) := by unfold rbit; rw [if_pos h2]; exact Lib.hid rfl
            have x3 : bits .xor .u32 ((s : Int) / 2) 3988292384 = (((s / 2) ^^^ 3988292384 : Nat) : Int) := by
              rw [show (s : Int) / 2 = ((s / 2 : Nat) : Int) by omega]
              exact xor_u32 _ 3988292384 (by omega) (by decide)
            clear h2
            go_wp2
            go_round
            case rel => exact ⟨j + 1, by omega, by go_num, by rw [hs2.out, hs3.out]⟩
            case measure => simp [intOf]; omega
          · have h2' : (((s : Nat) : Int) % 2 == 1) = false := beq_eq_false_iff_ne.2 (by omega)
            have hs3 : Hid (rbit s = s / 2) := by unfold rbit; rw [if_neg h2]; exact Lib.hid rfl
            clear h2
            go_wp2
            go_round
            case rel => exact ⟨j + 1, by omega, by go_num, by rw [hs2.out, hs3.out]; go_num⟩
            case measure => simp [intOf]; omega
        · obtain rfl : j = 8 := by omega
          go_wp2
          go_round
          case rel => exact ⟨k + 1, by omega, by go_num, by rw [hs.out]⟩
          case measure => simp [intOf]; omega
    · obtain rfl : k = l.length := by omega
      go_wp2
      go_ret
      exact ⟨ret_int (by unfold rcrcN; omega), rfl⟩
end Go.Proofs.YtnknkmpdkdpnaaaDoor
