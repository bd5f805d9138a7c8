/- rabin: the tables are made once (sync.Once, one goroutine): the walks. -/
import Derived.Test.YtmohjgcnhibkoaaRabB
import Derived.Test.YtmohjgcnhibkoaaRabC
import Derived.Tactics
import Derived.Tactics2
import Derived.Defers
import Derived.Laws.Pointers
import Derived.Laws.LoneSync
import Derived.Laws.NewBlocks
import Derived.RegionTactic
import Derived.RegionCalls
import Derived.Deep.RegionWith
import Derived.NoCompiler
namespace Go.Proofs.Ytmohjgcnhibkoaa
open Go.RowKit
set_option linter.unusedVariables false

theorem disable (w : World) : (callFunc 57 #[]).run Try.prog w = .ok (.value (.tuple #[])) w := run_call_mark0 Try.func57 (by kernel_rfl) (by kernel_rfl) (by kernel_rfl) .disable (by kernel_rfl) w
theorem enable (w : World) : (callFunc 59 #[]).run Try.prog w = .ok (.value (.tuple #[])) w := run_call_mark0 Try.func59 (by kernel_rfl) (by kernel_rfl) (by kernel_rfl) .enable (by kernel_rfl) w
theorem acquire (a : Addr) (w : World) : (callFunc 60 #[.pointer (some a)]).run Try.prog w = .ok (.value (.tuple #[])) w := run_call_marked Try.func60 (by kernel_rfl) (by kernel_rfl) (by kernel_rfl) .acquire (by kernel_rfl) a w
theorem releaseMerge (a : Addr) (w : World) : (callFunc 62 #[.pointer (some a)]).run Try.prog w = .ok (.value (.tuple #[])) w := run_call_marked Try.func62 (by kernel_rfl) (by kernel_rfl) (by kernel_rfl) .releaseMerge (by kernel_rfl) a w

set_option maxRecDepth 100000 in
theorem store_deferred (a : Addr) (x : Value) (u : FrameMode) (w : World) (hc : w.cell? a = some x) (hz : w.frozen? a = false) :
    CallsD Try.prog 52 #[.pointer (some a), .bool true] u w fun e u' w' => u' = u ∧ (e = .returned (.tuple #[]) ∧ w' = w.drew.setCell a (.int .u32 1)) := by
  have hc' : w.drew.cell? a = some x := by go_simp
  have hz' : w.drew.frozen? a = false := by go_simp
  have hst := run_call_store (P := Try.prog) Try.func55 (by kernel_rfl) (by kernel_rfl) (by kernel_rfl) (by kernel_rfl) (k := .u32) (y := 1) hc' hz'
  go_enter_d Try.func52, Try.ntmps52
  go_wp2
  go_region_calls
  all_goals (go_end0; exact ⟨rfl, rfl⟩)

set_option maxRecDepth 100000 in
theorem unlock_deferred (a : Addr) (u : FrameMode) (w : World) (hc : w.cell? a = some (.int .i32 1)) (hz : w.frozen? a = false) :
    CallsD Try.prog 51 #[.pointer (some a)] u w fun e u' w' => u' = u ∧ (e = .returned (.tuple #[]) ∧ w' = w.setCell a (.int .i32 0)) := by
  have hd := disable
  have he := enable
  have hr := releaseMerge
  have hadd := run_call_add (P := Try.prog) Try.func63 (by kernel_rfl) (by kernel_rfl) (by kernel_rfl) .i32 (by kernel_rfl) (y := -1) (s := 0) hc hz (by simp [go_sem]; rfl)
  have hcv := run_convert_to_unsafe (P := Try.prog) (src := 105) (dst := 109) Try.underlying105 Try.underlying109 (by kernel_rfl) hc
  go_enter_d Try.func51, Try.ntmps51
  go_wp2
  go_end0
  go_wp2
  go_end0
  exact ⟨rfl, rfl⟩

set_option maxRecDepth 100000 in
theorem lock_free (a : Addr) (w : World) (hc : w.cell? a = some (.int .i32 0)) (hz : w.frozen? a = false) :
    Calls Try.prog 50 #[.pointer (some a)] w fun e w' => e = .returned (.tuple #[]) ∧ w' = w.setCell a (.int .i32 1) := by
  have hd := disable
  have he := enable
  have ha := acquire
  have hcas := run_call_cas_hit (P := Try.prog) Try.func58 (by kernel_rfl) (by kernel_rfl) (by kernel_rfl) .i32 (by kernel_rfl) (y := 1) hc hz
  have hc' : (w.setCell a (.int .i32 1)).cell? a = some (.int .i32 1) := World.cell?_setCell_same w a _ hc
  have hcv := run_convert_to_unsafe (P := Try.prog) (src := 105) (dst := 109) Try.underlying105 Try.underlying109 (by kernel_rfl) hc'
  go_enter Try.func50, Try.ntmps50
  go_wp2
  first | go_end0 | (simp only [Exit.inBlock, Exit.then]; refine bodyPost_ret (results_none rfl _ _ _) rfl ?_) | refine bodyPost_ret (results_none rfl _ _ _) rfl ?_
  go_wp2
  go_end0
  exact ⟨rfl, rfl⟩

/-! ### a byte more -/
theorem and_mask (x : Nat) (h : x < 18446744073709551616) : bits .and .u64 (x : Int) 2147483647 = ((x % 2147483648 : Nat) : Int) := by
  rw [show (2147483647 : Int) = ((2147483647 : Nat) : Int) from rfl, and_u64 _ _ h (by decide)]
  congr 1
  exact Nat.and_two_pow_sub_one_eq_mod x 31
theorem or_u64 (a b : Nat) (ha : a < 18446744073709551616) (hb : b < 18446744073709551616) : bits .or .u64 (a : Int) (b : Int) = ((a ||| b : Nat) : Int) := (bits_nat .u64 64 (by decide) in_u64 a b (by simpa using ha) (by simpa using hb)).2

theorem add_calls (g : Nat) (d st : Int) (out : List Nat) (p f b : Nat) (hp : bl p = 32) (hf : bl f ≤ 31) (hb : b < 256) (w : World) (hK : BK w g 58 (tcs d st (tabTo (upN p) 256) out p)) :
    Calls Try.prog 38 #[.pointer (some ⟨g, 0, none⟩), .int .u64 (f : Int), .int .u8 (b : Int)] w fun e w' => e = .returned (.int .u64 (addN p f b : Nat)) ∧ w = w' := by
  have hf31 : f < 2147483648 := bl_le.1 hf
  obtain ⟨h, hh⟩ : ∃ h, f / 8388608 = h := ⟨_, rfl⟩
  have hh2 : h < 256 := by omega
  have e1 : (f : Int) / 8388608 = (h : Int) := by omega
  have hcell := hK.cell (tcs_up (d := d) (st := st) (out := out) (p := p) (tabTo_get (upN p) h hh2))
  have hu : upN p h < 2147483648 := by
    have := md_lt (h * 2147483648) p (by intro e; rw [e, bl_zero] at hp; omega)
    exact bl_le.1 (show bl (md (h * 2147483648) p) ≤ 31 by omega)
  have hadd := add_eq hp hf hb
  rw [hh] at hadd
  obtain ⟨u, hue⟩ : ∃ u, upN p h = u := ⟨_, rfl⟩
  rw [hue] at hcell hu hadd
  have e2 : bits .or .u64 ((f : Int) * 256) (b : Int) = ((f * 256 + b : Nat) : Int) := by
    rw [show (f : Int) * 256 = ((f * 256 : Nat) : Int) by omega, or_u64 _ _ (by omega) (by omega), show (256 : Nat) = 2 ^ 8 from rfl, or_add (by omega)]
  obtain ⟨q, hq⟩ : ∃ q, f * 256 + b = q := ⟨_, rfl⟩
  rw [hq] at e2 hadd
  have hq2 : q < 549755813888 := by omega
  obtain ⟨r, hr⟩ : ∃ r, q % 2147483648 = r := ⟨_, rfl⟩
  have e3 := and_mask q (by omega)
  rw [hr] at e3 hadd
  have e4 : bits .xor .u64 (r : Int) (u : Int) = ((addN p f b : Nat) : Int) := by rw [xor_u64 r u (by omega) (by omega), hadd]
  have E4 := Lib.hid e4
  have b1 : (0 : Int) ≤ h := by omega
  have b2 : (h : Int) < 256 := by omega
  have b3 : (f : Int) < 2147483648 := by omega
  clear e4 hadd hr hq hue hh hf hp hK
  go_enter Try.func38, Try.ntmps38
  go_wp2
  go_ret
  exact ⟨by rw [← E4.out]; rfl, rfl⟩

set_option maxRecDepth 100000 in
set_option maxHeartbeats 1600000 in
/-- The closure: both tables are made. -/
theorem fillc_calls (g pl p : Nat) (hp : bl p = 32) (w : World) (hK : BK w g 58 (tcs 0 1 zs zs p)) (hpl : w.cell? ⟨pl, 0, none⟩ = some (.pointer (some ⟨g, 0, none⟩))) (hne : pl ≠ g) :
    Calls Try.prog 45 #[.pointer (some ⟨pl, 0, none⟩)] w fun e w' => e = .returned (.tuple #[]) ∧ BK w' g 58 (tcs 0 1 (tabTo (upN p) 256) (tabTo (outN p) 256) p) ∧ w.grownBy w' (some g) := by
  have HK := Lib.hid hK
  have HPL := Lib.hid hpl
  have HNE := Lib.hid hne
  have HP := Lib.hid hp
  have HP0 : Hid (p ≠ 0) := Lib.hid (by intro e; rw [e, bl_zero] at hp; omega)
  have HPU : Hid (U64 p) := Lib.hid (by unfold U64; omega)
  have hpll : Hid (pl < w.heap.size) := Lib.hid (World.block_lt_of_cell? w _ hpl)
  clear hK hpl hne hp
  go_enter Try.func45, Try.ntmps45
  go_wp2_with fail
  go_loopw [4] (fun i wr => ∃ k : Nat, k ≤ 256 ∧ i = .int .i64 k ∧ Hid (BK wr g 58 (tcs 0 1 (tabTo (upN p) k) zs p)) ∧ Hid (w.grownBy wr (some g))) (fun i _ => 256 - (intOf i).toNat)
  case atStart => exact ⟨0, Nat.zero_le _, rfl, HK, Lib.hid (grown_refl _ _)⟩
  case round =>
    clear HK
    obtain ⟨k, hk, rfl, HK, HG⟩ := hrel
    by_cases hlt : k < 256
    · have hl := tabTo_length (upN p) k hk
      have c0 : wr.cell? ⟨pl, 0, none⟩ = some (.pointer (some ⟨g, 0, none⟩)) := (World.cell?_of_block (a := ⟨pl, 0, none⟩) (HG.out.block pl hpll.out (fun e => HNE.out (Option.some.inj e)))).trans HPL.out
      have c1 := HK.out.cell (tcs_poly (d := 0) (st := 1) (p := p) hl (show zs.length = 256 by simp [zs]))
      have f1 := HK.out.frozen (3 + k)
      have hkl : k < (tabTo (upN p) k).length := by omega
      have cs := HK.out.cell (tcs_up (d := 0) (st := 1) (out := zs) (p := p) (List.getElem?_eq_getElem hkl))
      have k0 : (0 : Int) ≤ k := by omega
      have k1 : (k : Int) < 256 := by omega
      have hw1 : IntKind.u64.wrap (k : Int) = (k : Int) := by rw [wrap_u64_nat, Nat.mod_eq_of_lt (by omega)]
      obtain ⟨q, hq⟩ : ∃ q, k * 2147483648 = q := ⟨_, rfl⟩
      have hw2 : IntKind.u64.wrap ((k : Int) * 2147483648) = (q : Int) := by
        rw [show (k : Int) * 2147483648 = (q : Int) by omega, wrap_u64_nat, Nat.mod_eq_of_lt (by omega)]
      have HU : Hid (U64 q) := Lib.hid (U64.of (by omega))
      have hst := HK.out.set (3 + k) (.int .u64 ((upN p k : Nat) : Int))
      rw [tcs_setUp k _ hkl, tabTo_set _ _ hlt] at hst
      have hgr := grown_setCell wr g (3 + k) (.int .u64 ((upN p k : Nat) : Int))
      have HST := Lib.hid hst
      have HGR := Lib.hid (grown_trans HG.out hgr)
      have HD : Hid (md q p = upN p k) := Lib.hid (by unfold upN; rw [hq])
      clear hst hgr hl HK hq
      go_wp2_with fail
      go_region_with (go_at_call 41; refine (mod_calls q p HU.out HPU.out _).mono ?_; rintro e w' ⟨rfl, rfl⟩)
      all_goals
        rw [HD.out]
        have HK2 : Hid (BK (wr.setCell ⟨g, 3 + k, none⟩ (.int .u64 ((upN p k : Nat) : Int))).drew g 58 (tcs 0 1 (tabTo (upN p) (k + 1)) zs p)) := Lib.hid HST.out.drew
        have HG2 : Hid (w.grownBy (wr.setCell ⟨g, 3 + k, none⟩ (.int .u64 ((upN p k : Nat) : Int))).drew (some g)) := Lib.hid ⟨HGR.out.os, HGR.out.tape, HGR.out.output, HGR.out.size, HGR.out.block⟩
        generalize (wr.setCell ⟨g, 3 + k, none⟩ (.int .u64 ((upN p k : Nat) : Int))).drew = w5 at *
        clear HST HGR HG c0 c1 f1 cs hkl hw1 hw2
        go_wp2
        exact ⟨⟨k + 1, by omega, by go_num, HK2, HG2⟩, by simp [intOf]; omega⟩
    · have hke : k = 256 := by omega
      rw [hke] at HK
      clear hk hke
      go_wp2_with fail
      go_loopw [22] (fun i wr => ∃ k : Nat, k ≤ 256 ∧ i = .int .i64 k ∧ Hid (BK wr g 58 (tcs 0 1 (tabTo (upN p) 256) (tabTo (outN p) k) p)) ∧ Hid (w.grownBy wr (some g))) (fun i _ => 256 - (intOf i).toNat)
      case atStart => exact ⟨0, Nat.zero_le _, rfl, HK, HG⟩
      case round =>
        clear HK HG
        obtain ⟨k, hk, rfl, HK, HG⟩ := hrel
        by_cases hlt : k < 256
        · have hl := tabTo_length (outN p) k hk
          have hu := tabTo_length (upN p) 256 (Nat.le_refl _)
          have c0 : wr.cell? ⟨pl, 0, none⟩ = some (.pointer (some ⟨g, 0, none⟩)) := (World.cell?_of_block (a := ⟨pl, 0, none⟩) (HG.out.block pl hpll.out (fun e => HNE.out (Option.some.inj e)))).trans HPL.out
          have f1 := HK.out.frozen (259 + k)
          have hkl : k < (tabTo (outN p) k).length := by omega
          have cs := HK.out.cell (tcs_out (d := 0) (st := 1) (p := p) hu (List.getElem?_eq_getElem hkl))
          have k0 : (0 : Int) ≤ k := by omega
          have k1 : (k : Int) < 256 := by omega
          have hst := HK.out.set (259 + k) (.int .u64 ((outN p k : Nat) : Int))
          rw [tcs_setOut hu k _ hkl, tabTo_set _ _ hlt] at hst
          have hgr := grown_setCell wr g (259 + k) (.int .u64 ((outN p k : Nat) : Int))
          have HST := Lib.hid hst
          have HGR := Lib.hid (grown_trans HG.out hgr)
          have HF1 := Lib.hid f1
          have HCS := Lib.hid cs
          have HC0 := Lib.hid c0
          have hk31 : Hid (k = md (k * 2 ^ (8 * 0)) p) := Lib.hid (by
            rw [Nat.mul_zero, Nat.pow_zero, Nat.mul_one, md_small]
            have := HP.out
            have : bl k ≤ 8 := bl_le.2 (by omega)
            omega)
          clear hst hgr hl f1 cs c0 hu
          go_wp2_with fail
          go_loop [3, 27] (fun v i => ∃ j : Nat, j ≤ 15 ∧ i = .int .i64 j ∧ v = .int .u64 ((md (k * 2 ^ (8 * j)) p : Nat) : Int)) (fun _ i => 15 - (intOf i).toNat)
          case atStart => exact ⟨0, Nat.zero_le _, rfl, by rw [← hk31.out]⟩
          case round =>
            obtain ⟨j, hj, rfl, rfl⟩ := hrel
            have c0 := HC0.out
            by_cases h15 : j < 15
            · have HS := Lib.hid (out_step p k j)
              have hb : Hid (bl (md (k * 2 ^ (8 * j)) p) ≤ 31) := Lib.hid (by have := md_lt (k * 2 ^ (8 * j)) p HP0.out; have := HP.out; omega)
              generalize md (k * 2 ^ (8 * j)) p = f at *
              go_wp2_with fail
              refine (add_calls g 0 1 _ p f 0 HP.out hb.out (by decide) wr HK.out).mono ?_
              rintro e w' ⟨rfl, rfl⟩
              rw [HS.out]
              go_wp2
              exact ⟨⟨j + 1, by omega, by go_num, rfl⟩, by simp [intOf]; omega⟩
            · obtain rfl : j = 15 := by omega
              have hO : Hid (md (k * 2 ^ (8 * 15)) p = outN p k) := Lib.hid rfl
              have f1 := HF1.out
              have cs := HCS.out
              clear h15 hj
              rw [hO.out]
              generalize outN p k = x at *
              go_wp2
              exact ⟨⟨k + 1, by omega, by go_num, HST, HGR⟩, by simp [intOf]; omega⟩
        · obtain rfl : k = 256 := by omega
          go_wp2
          go_end0
          exact ⟨rfl, HK.out, HG.out⟩
end Go.Proofs.Ytmohjgcnhibkoaa
