/- The walk of the law RabinRolls. -/
import Derived.Test.YtjlocegopdepeaaRabK
import Derived.Deep.RegionWith
namespace Go.Proofs.Ytjlocegopdepeaa
open Go.RowKit
set_option linter.unusedVariables false

theorem rlast_n (A : Option Addr) (c n : Nat) (l : List UInt8) (hn : l.length = n) (w : World) (h : RB w A l) (hc : n ≤ c) (hl : n ≤ 140737488351232) :
    Calls Try.prog 32 #[.slice A n c] w fun e w' => ∃ R d, e = .returned (.slice R 16 d) ∧ RB w' R (wnd l) ∧ 16 ≤ d ∧ Below w.heap.size w w' := by
  subst hn
  have := rlast_calls A c l w h hc hl
  rw [wnd_length] at this
  exact this
theorem rprint_n (p : Nat) (hp : bl p = 32) (A : Option Addr) (c : Nat) (l : List UInt8) (hn : l.length = 16) (w : World) (h : RB w A l) :
    Calls Try.prog 31 #[.int .u64 (p : Int), .slice A 16 c] w fun e w' => e = .returned (.int .u64 (prN p l : Nat)) ∧ w = w' := by
  have := rprint_calls p hp A c l w h (by omega)
  rw [hn] at this
  exact this

set_option maxRecDepth 8000 in
set_option maxHeartbeats 4000000 in
theorem rolls_walk (w : World) (p : Nat) (hp : p ≤ 18446744073709551615) (A : Option Addr) (c : Nat) (l : List UInt8) (h : RB w A l) (hc : l.length ≤ c) (hl : l.length ≤ 140737488351232) :
    Calls Try.prog 11 #[.int .u64 (p : Int), .slice A l.length c] w fun e w' => e = .returned (.bool true) ∧ Below w.heap.size w w' := by
  have HP := Lib.hid (U64.of hp)
  have H := Lib.hid h
  clear hp h
  by_cases hs : 600 < l.length
  · go_enter Try.func11, Try.ntmps11
    go_wp2_with fail
    refine (awake_calls w).mono ?_
    rintro e w2 ⟨rfl, hb⟩
    have HB := Lib.hid hb
    clear hb
    go_wp2
    go_ret
    exact ⟨rfl, HB.out⟩
  · go_enter Try.func11, Try.ntmps11
    go_wp2_with fail
    refine (table_calls p HP.out w).mono ?_
    rintro e w1 ⟨g, rfl, ht, hg, hb⟩
    have HT1 := Lib.hid ht
    have HB1 := Lib.hid hb
    have hq := tabP_bl p
    generalize tabP p = q at *
    have HQ := Lib.hid hq
    clear ht hb hq
    go_wp2_with fail
    refine (roll_calls g q HQ.out w1 HT1.out).mono ?_
    rintro e w2 ⟨r, rfl, hr1, hR1, hT2, hG2⟩
    have hgr : g < w1.heap.size := HT1.out.lt
    have HR := Lib.hid (RollOf.start hR1 (pr_zs16 q))
    have HT2 := Lib.hid hT2
    have hsz1 := HB1.out.size
    have HB2 := Lib.hid (below_grown HB1.out hG2 hsz1 hg)
    have hwr : w.heap.size ≤ r := by omega
    have hne : g ≠ r := by omega
    clear hR1 hT2 hG2 hgr hsz1 hr1 HT1 HB1
    go_wp2_with fail
    go_loopw [22] (fun i wr => ∃ k : Nat, k ≤ l.length ∧ i = .int .i64 k ∧ Hid (RollOf wr r g q (l.take k)) ∧ Hid (TabFull wr g q) ∧ Hid (Below w.heap.size w wr)) (fun i _ => l.length - (intOf i).toNat)
    case atStart => exact ⟨0, Nat.zero_le _, rfl, HR, HT2, HB2⟩
    case round =>
      clear HR HT2 HB2
      obtain ⟨k, hk, rfl, HRk, HTk, HBk⟩ := hrel
      by_cases hkl : k < l.length
      · have d1 : decide ((k : Int) < (l.length : Int)) = true := by simpa using hkl
        obtain ⟨b, o, rfl, hcell⟩ := (H.out.ext HBk.out) k hkl
        obtain ⟨x, _, hx, htk⟩ := gb_some l k hkl
        rw [hx] at hcell
        have HTK := Lib.hid htk
        clear htk hx
        obtain ⟨f, hf⟩ : ∃ f, prN q (wnd (l.take (k + 1))) = f := ⟨_, rfl⟩
        have HF := Lib.hid hf
        have HLN : Hid ((l.take (k + 1)).length = k + 1) := Lib.hid (by rw [List.length_take]; omega)
        clear hf
        go_wp2_with fail
        have hwrap : IntKind.i64.wrap ((k : Int) + 1) = (k : Int) + 1 := IntWalk.i64_in _ (by omega)
        go_region_with (first
          | (go_at_call 30; refine (nextL_calls r g q HQ.out (l.take k) x _ ?_ ?_ hne).mono ?_; exact HRk.out; exact HTk.out; rintro e w4 ⟨rfl, hr4, ht4, hg4⟩; rw [← HTK.out] at hr4; rw [← HTK.out, HF.out]; have HR4 := Lib.hid hr4; have HT4 := Lib.hid ht4; have HB4 := Lib.hid (below_grown HBk.out.drew hg4 HBk.out.drew.size hwr); clear hr4 ht4 hg4)
          | (go_at_call 32; refine (rlast_n (some ⟨b, o, none⟩) c (k + 1) (l.take (k + 1)) HLN.out _ ?_ ?_ ?_).mono ?_; exact (H.out.ext HB4.out).take (k + 1); omega; omega; rintro e w5 ⟨R, d, rfl, hr5, hd5, hb5⟩; have HRR := Lib.hid hr5; have HB5 := Lib.hid hb5; clear hr5 hb5)
          | (go_at_call 31; refine (rprint_n q HQ.out R d (wnd (l.take (k + 1))) (wnd_length _) _ HRR.out).mono ?_; rintro e w6 ⟨rfl, rfl⟩; rw [HF.out]))
        all_goals
          have HR5 := Lib.hid (HR4.out.ext HB5.out)
          have HT5 := Lib.hid (HT4.out.ext HB5.out)
          have HBn := Lib.hid (HB4.out.trans (HB5.out.mono HB4.out.size))
          clear HRk HTk HBk HR4 HT4 HB4 HB5 HRR hcell
          go_wp2
          exact ⟨⟨k + 1, by omega, by go_num, HR5, HT5, HBn⟩, by simp [intOf]; omega⟩
      · obtain rfl : k = l.length := by omega
        go_wp2_with fail
        refine (awake_calls _).mono ?_
        rintro e w4 ⟨rfl, hb⟩
        have HB4 := Lib.hid (HBk.out.trans (hb.mono HBk.out.size))
        clear hb
        go_wp2
        go_ret
        exact ⟨rfl, HB4.out⟩
end Go.Proofs.Ytjlocegopdepeaa
