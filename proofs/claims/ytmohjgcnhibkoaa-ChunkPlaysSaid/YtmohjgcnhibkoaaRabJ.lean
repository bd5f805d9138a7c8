/- flumeref05: Prime, Good, Print: the walks. -/
import Derived.Test.YtmohjgcnhibkoaaRabI
import Derived.Test.YtmohjgcnhibkoaaPolyC
namespace Go.Proofs.Ytmohjgcnhibkoaa
open Go.RowKit
set_option linter.unusedVariables false

-- left out: flume/flumeref05.Prime
-- left out: flume/flumeref05.Good
/-! ### Print -/
theorem md_two_bit (x r p : Nat) (hr : r < 2) : md (2 * md x p + r) p = md (2 * x + r) p := by
  have e : ∀ c, 2 * c + r = c * 2 ^ 1 ^^^ r := fun c => by rw [xor_add (k := 1) (by simpa using hr)]; omega
  have h : md (md x p * 2 ^ 1) p = md (x * 2 ^ 1) p := by
    by_cases hp : p = 0
    · subst hp; rw [md_zero_right x]
    · exact md_eq ((md_cg x p hp).symm.pow 1)
  rw [e, e, md_xor, md_xor, h]
/-- What the first t bits leave undone of a byte. -/
def part (F x t : Nat) : Nat := F * 2 ^ (8 - t) + x / 2 ^ t
theorem part_step (F x j : Nat) (hj : j < 8) : 2 * part F x (j + 1) + x / 2 ^ j % 2 = part F x j := by
  unfold part
  obtain ⟨i, hi⟩ : ∃ i, 8 - (j + 1) = i := ⟨_, rfl⟩
  have h1 := half_step x j
  rw [hi, show 8 - j = i + 1 by omega, Nat.pow_succ 2 i, ← Nat.mul_assoc]
  omega
theorem bl_bit {f r : Nat} (hf : bl f ≤ 31) (hr : r < 2) : bl (2 * f + r) ≤ 32 := by
  have := bl_le.1 hf
  exact bl_le.2 (by omega)
theorem bit_over {p A s r : Nat} (hp : bl p = 32) (hr : r < 2) (hs : 2 * md A p + r = s) (h : bl s = 32) : s ^^^ p = md (2 * A + r) p := by
  have hp0 : p ≠ 0 := by intro e; rw [e, bl_zero] at hp; omega
  have h1 := md_step (a := s) (p := p) 0
  rw [Nat.pow_zero, Nat.mul_one] at h1
  have h2 : bl (s ^^^ p) < bl p := by
    have := bl_xor_same (a := s) (b := p) (by omega) (bl_pos.1 (by omega))
    omega
  rw [← md_two_bit A r p hr, hs, ← h1, md_small h2]
theorem bit_under {p A s r : Nat} (hp : bl p = 32) (hr : r < 2) (hs : 2 * md A p + r = s) (h : bl s ≤ 31) : s = md (2 * A + r) p := by
  rw [← md_two_bit A r p hr, hs, md_small (by omega)]
theorem part_all {p F x : Nat} : md (part F x 0) p = addN p F x := by
  unfold part addN
  rw [Nat.pow_zero, Nat.div_one]
theorem part_none {p F x : Nat} (hp : bl p = 32) (hF : bl F ≤ 31) (hx : x ≤ 255) : md (part F x 8) p = F := by
  unfold part
  rw [Nat.sub_self, Nat.pow_zero, Nat.mul_one, Nat.div_eq_of_lt (by omega), Nat.add_zero, md_small (by omega)]

set_option maxRecDepth 8000 in
set_option maxHeartbeats 2000000 in
theorem rprint_calls (p : Nat) (hp : bl p = 32) (A : Option Addr) (c : Nat) (l : List UInt8) (w : World) (h : RB w A l) (hl : l.length ≤ 140737488351232) :
    Calls Try.prog 39 #[.int .u64 (p : Int), .slice A l.length c] w fun e w' => e = .returned (.int .u64 (prN p l : Nat)) ∧ w = w' := by
  have HP := Lib.hid hp
  have HPU : Hid (U64 p) := Lib.hid (by unfold U64; omega)
  have H := Lib.hid h
  clear hp h
  go_enter Try.func39, Try.ntmps39
  go_wp2_with fail
  go_loop [5, 11] (fun v5 v11 => ∃ k : Nat, k ≤ l.length ∧ v11 = .int .i64 (k : Int) ∧ v5 = .int .u64 (prN p (l.take k) : Nat)) (fun _ v11 => l.length - (intOf v11).toNat)
  case atStart => exact ⟨0, Nat.zero_le _, rfl, by rw [List.take_zero]; rfl⟩
  case round =>
    obtain ⟨k, hk, rfl, rfl⟩ := hrel
    by_cases hkl : k < l.length
    · have d1 : decide ((k : Int) < (l.length : Int)) = true := by simpa using hkl
      obtain ⟨b, o, rfl, hcell⟩ := H.out k hkl
      have hg := gb_lt l k
      have hst := prN_take p l k hkl
      have hF31 := prN_lt HP.out (l.take k)
      obtain ⟨F, hF⟩ : ∃ F, prN p (l.take k) = F := ⟨_, rfl⟩
      rw [hF] at hst hF31
      rw [hF]
      obtain ⟨x, hx⟩ : ∃ x, gb l k = x := ⟨_, rfl⟩
      rw [hx] at hcell hg hst
      have HST := Lib.hid hst
      have HF31 := Lib.hid hF31
      clear hst hF31 hF hx
      go_wp2_with fail
      go_loop [5, 8] (fun v5 v8 => ∃ t : Nat, t ≤ 8 ∧ v8 = .int .i64 ((t : Int) - 1) ∧ v5 = .int .u64 (md (part F x t) p : Nat)) (fun _ v8 => (intOf v8 + 1).toNat)
      case atStart => exact ⟨8, by omega, rfl, by rw [part_none HP.out HF31.out hg]⟩
      case round =>
        obtain ⟨t, ht, rfl, rfl⟩ := hrel
        by_cases h0 : t = 0
        · subst h0
          rw [part_all, ← HST.out]
          go_wp2
          exact ⟨⟨k + 1, by omega, by go_num, rfl⟩, by simp [intOf]; omega⟩
        · obtain ⟨j, rfl⟩ : ∃ j, t = j + 1 := ⟨t - 1, by omega⟩
          have ej : ((j + 1 : Nat) : Int) - 1 = (j : Int) := by omega
          rw [ej]
          have hj : j ≤ 7 := by omega
          have e1 := shr_cast x j
          have e2 := and_one_u64 (x / 2 ^ j) (Nat.lt_of_le_of_lt (Nat.div_le_self _ _) (by omega))
          have hps := part_step F x j (by omega)
          obtain ⟨q, hq⟩ : ∃ q, x / 2 ^ j = q := ⟨_, rfl⟩
          have hq255 : q ≤ 255 := by rw [← hq]; exact Nat.le_trans (Nat.div_le_self _ _) hg
          rw [hq] at e1 e2 hps
          obtain ⟨r, hr⟩ : ∃ r, q % 2 = r := ⟨_, rfl⟩
          rw [hr] at e2 hps
          have hr2 : r < 2 := by omega
          have hA : bl (md (part F x (j + 1)) p) ≤ 31 := by
            have := md_lt (part F x (j + 1)) p (by intro e; have := HP.out; rw [e, bl_zero] at this; omega)
            have := HP.out
            omega
          obtain ⟨f, hf⟩ : ∃ f, md (part F x (j + 1)) p = f := ⟨_, rfl⟩
          have hbb := bl_bit (f := f) (r := r) (by rw [← hf]; exact hA) hr2
          have hfl : f < 2147483648 := by rw [← hf]; exact bl_le.1 hA
          rw [hf]
          obtain ⟨s, hs⟩ : ∃ s, 2 * f + r = s := ⟨_, rfl⟩
          rw [hs] at hbb
          have es : 2 * (f : Int) + (r : Int) = (s : Int) := by omega
          have hs2 : 2 * md (part F x (j + 1)) p + r = s := by rw [hf, hs]
          have HSU : Hid (U64 s) := Lib.hid (by unfold U64; omega)
          have hover := fun k => bit_over HP.out hr2 hs2 k
          have hunder := fun k => bit_under HP.out hr2 hs2 k
          rw [hps] at hover hunder
          obtain ⟨m, hm⟩ : ∃ m, bl s = m := ⟨_, rfl⟩
          have HM := Lib.hid hm
          rw [hm] at hbb hover hunder
          have HX := Lib.hid (HSU.out.xor HPU.out)
          have hs4 : s < 4294967296 := by omega
          have HPS := Lib.hid hps
          clear hq hr hf hs hs2 hA hm hps
          go_wp2_with fail
          refine (rdeg_calls s HSU.out w).mono ?_
          rintro e w' ⟨rfl, rfl⟩
          rw [HM.out]
          go_wp2_with fail
          refine (rdeg_calls p HPU.out w).mono ?_
          rintro e w' ⟨rfl, rfl⟩
          rw [HP.out]
          by_cases h32 : m = 32
          · subst h32
            have hO := hover rfl
            rw [hO] at HX
            have HX2 := HX.out
            clear hover hunder
            go_wp2_with fail
            exact ⟨⟨j, by omega, by go_num, rfl⟩, by simp [intOf]⟩
          · have d0 : ((m : Int) - 1 == (32 : Int) - 1) = false := beq_eq_false_iff_ne.2 (by omega)
            have hO := hunder (by omega)
            clear hover hunder
            go_wp2_with fail
            exact ⟨⟨j, by omega, by go_num, rfl⟩, by simp [intOf]⟩
    · obtain rfl : k = l.length := by omega
      rw [List.take_length]
      go_wp2
      go_ret
      exact ⟨rfl, rfl⟩
end Go.Proofs.Ytmohjgcnhibkoaa
