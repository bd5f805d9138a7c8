/- The walk of the law RabinAlone. -/
import Derived.Test.YtjlocegopdepeaaRollA
namespace Go.Proofs.Ytjlocegopdepeaa
open Go.RowKit
set_option linter.unusedVariables false

theorem alone_eq {A B b : List UInt8} {k p : Nat} (h : 15 ≤ k) (hk : k < b.length) : prN p (wnd (A ++ b.take (k + 1))) = prN p (wnd (B ++ b.take (k + 1))) := by
  have hl : 16 ≤ (b.take (k + 1)).length := by rw [List.length_take]; omega
  rw [wnd_after A _ hl, wnd_after B _ hl]

set_option maxRecDepth 8000 in
set_option maxHeartbeats 1600000 in
theorem alone_walk (w : World) (p : Nat) (hp : p ≤ 18446744073709551615) (A : Option Addr) (c : Nat) (l : List UInt8) (h : RB w A l) (hc : l.length ≤ c) (hl : l.length ≤ 140737488351232)
    (A1 : Option Addr) (c1 : Nat) (l1 : List UInt8) (h1 : RB w A1 l1) (hc1 : l1.length ≤ c1) (hl1 : l1.length ≤ 140737488351232)
    (A2 : Option Addr) (c2 : Nat) (l2 : List UInt8) (h2 : RB w A2 l2) (hc2 : l2.length ≤ c2) (hl2 : l2.length ≤ 140737488351232) :
    Calls Try.prog 12 #[.int .u64 (p : Int), .slice A l.length c, .slice A1 l1.length c1, .slice A2 l2.length c2] w fun e w' => e = .returned (.bool true) ∧ Below w.heap.size w w' := by
  have H := Lib.hid h
  have H1 := Lib.hid h1
  have H2 := Lib.hid h2
  have HP := Lib.hid (U64.of hp)
  clear h h1 h2 hp
  by_cases hs : 8192 < l.length ∨ 8192 < l1.length ∨ 8192 < l2.length ∨ l2.length < 16
  · by_cases g1 : 8192 < l.length
    · go_enter Try.func12, Try.ntmps12
      go_wp2_with fail
      refine (awake_calls w).mono ?_
      rintro e w2 ⟨rfl, hb⟩
      have HB := Lib.hid hb
      clear hb
      go_wp2
      go_ret
      exact ⟨rfl, HB.out⟩
    by_cases g2 : 8192 < l1.length
    · go_enter Try.func12, Try.ntmps12
      go_wp2_with fail
      refine (awake_calls w).mono ?_
      rintro e w2 ⟨rfl, hb⟩
      have HB := Lib.hid hb
      clear hb
      go_wp2
      go_ret
      exact ⟨rfl, HB.out⟩
    by_cases g3 : 8192 < l2.length
    · go_enter Try.func12, Try.ntmps12
      go_wp2_with fail
      refine (awake_calls w).mono ?_
      rintro e w2 ⟨rfl, hb⟩
      have HB := Lib.hid hb
      clear hb
      go_wp2
      go_ret
      exact ⟨rfl, HB.out⟩
    have g4 : l2.length < 16 := by omega
    go_enter Try.func12, Try.ntmps12
    go_wp2_with fail
    refine (awake_calls w).mono ?_
    rintro e w2 ⟨rfl, hb⟩
    have HB := Lib.hid hb
    clear hb
    go_wp2
    go_ret
    exact ⟨rfl, HB.out⟩
  · have s1 : l.length ≤ 8192 := by omega
    have s2 : l1.length ≤ 8192 := by omega
    have s3 : l2.length ≤ 8192 := by omega
    have s4 : 16 ≤ l2.length := by omega
    clear hs
    go_enter Try.func12, Try.ntmps12
    go_wp2_with fail
    refine (table_calls p HP.out w).mono ?_
    rintro e w1 ⟨g, rfl, ht, hg, hb⟩
    have HT1 := Lib.hid ht
    have HB1 := Lib.hid hb
    have hq := tabP_bl p
    generalize tabP p = q at *
    have HQ := Lib.hid hq
    clear ht hb hq
    go_wp2_with fail
    refine (roll_calls g q HQ.out w1 HT1.out).mono ?_
    rintro e w2 ⟨r1, rfl, hr1, hR1, hT2, hG2⟩
    have hgr : g < w1.heap.size := HT1.out.lt
    have HR1 := Lib.hid (RollOf.start hR1 (pr_zs16 q))
    have HT2 := Lib.hid hT2
    have HB2 := Lib.hid (below_grown HB1.out hG2 HB1.out.size hg)
    have hsz2 := hG2.size
    clear hR1 hT2 hG2
    go_wp2_with fail
    refine (roll_calls g q HQ.out w2 HT2.out.is).mono ?_
    rintro e w3 ⟨r2, rfl, hr2, hR2, hT3, hG3⟩
    have hlt1 : r1 < w2.heap.size := HR1.out.lt
    have hsz1 := HB1.out.size
    have HTW := Lib.hid (show Two w3 r1 r2 g q [] [] from ⟨HR1.out.other hG3 (by omega), RollOf.start hR2 (pr_zs16 q), hT3, by omega, by omega, by omega⟩)
    have HB3 := Lib.hid (below_grown HB2.out hG3 HB2.out.size hg)
    have hw1 : w.heap.size ≤ r1 := by omega
    have hw2 : w.heap.size ≤ r2 := by omega
    clear hR2 hT3 hG3 hr1 hr2 hg hgr hsz2 hlt1 hsz1 HR1 HT2 HB2 HT1 HB1
    go_wp2_with fail
    go_loopw [51] (fun i wr => ∃ k : Nat, k ≤ l.length ∧ i = .int .i64 k ∧ Hid (Two wr r1 r2 g q (l.take k) []) ∧ Hid (Below w.heap.size w wr)) (fun i _ => l.length - (intOf i).toNat)
    case atStart => exact ⟨0, Nat.zero_le _, rfl, HTW, HB3⟩
    case round =>
      obtain ⟨k, hk, rfl, HTk, HBk⟩ := hrel
      by_cases hkl : k < l.length
      · have d1 : decide ((k : Int) < (l.length : Int)) = true := by simpa using hkl
        obtain ⟨b, o, rfl, hcell⟩ := (H.out.ext HBk.out) k hkl
        obtain ⟨x, _, hx, htk⟩ := gb_some l k hkl
        rw [hx] at hcell
        have HTK := Lib.hid htk
        clear htk hx
        go_wp2_with fail
        refine (two_next1 r1 r2 g q HQ.out (l.take k) [] x _ HTk.out).mono ?_
        rintro e w4 ⟨rfl, ht4, hg4⟩
        have HT4 : Hid (Two w4 r1 r2 g q (l.take (k + 1)) []) := Lib.hid (by rw [HTK.out]; exact ht4)
        have HB4 := Lib.hid (below_grown HBk.out hg4 HBk.out.size hw1)
        clear ht4 hg4 hcell
        go_wp2
        exact ⟨⟨k + 1, by omega, by go_num, HT4, HB4⟩, by simp [intOf]; omega⟩
      · obtain rfl : k = l.length := by omega
        rename_i wr
        rw [List.take_length] at HTk
        go_wp2_with fail
        go_loopw [61] (fun i wr => ∃ k : Nat, k ≤ l1.length ∧ i = .int .i64 k ∧ Hid (Two wr r1 r2 g q l (l1.take k)) ∧ Hid (Below w.heap.size w wr)) (fun i _ => l1.length - (intOf i).toNat)
        case atStart => exact ⟨0, Nat.zero_le _, rfl, HTk, HBk⟩
        case round =>
          clear HTk HBk
          obtain ⟨k, hk1, rfl, HTk, HBk⟩ := hrel
          by_cases hkl : k < l1.length
          · have d1 : decide ((k : Int) < (l1.length : Int)) = true := by simpa using hkl
            obtain ⟨b, o, rfl, hcell⟩ := (H1.out.ext HBk.out) k hkl
            obtain ⟨x, _, hx, htk⟩ := gb_some l1 k hkl
            rw [hx] at hcell
            have HTK := Lib.hid htk
            clear htk hx
            go_wp2_with fail
            refine (two_next2 r1 r2 g q HQ.out l (l1.take k) x _ HTk.out).mono ?_
            rintro e w4 ⟨rfl, ht4, hg4⟩
            have HT4 : Hid (Two w4 r1 r2 g q l (l1.take (k + 1))) := Lib.hid (by rw [HTK.out]; exact ht4)
            have HB4 := Lib.hid (below_grown HBk.out hg4 HBk.out.size hw2)
            clear ht4 hg4 hcell
            go_wp2
            exact ⟨⟨k + 1, by omega, by go_num, HT4, HB4⟩, by simp [intOf]; omega⟩
          · obtain rfl : k = l1.length := by omega
            rw [List.take_length] at HTk
            have HTk2 : Hid (Two _ r1 r2 g q (l ++ l2.take 0) (l1 ++ l2.take 0)) := Lib.hid (by simpa using HTk.out)
            go_wp2_with fail
            go_loopw [71] (fun i wr => ∃ k : Nat, k ≤ l2.length ∧ i = .int .i64 k ∧ Hid (Two wr r1 r2 g q (l ++ l2.take k) (l1 ++ l2.take k)) ∧ Hid (Below w.heap.size w wr)) (fun i _ => l2.length - (intOf i).toNat)
            case atStart => exact ⟨0, Nat.zero_le _, rfl, HTk2, HBk⟩
            case round =>
              clear HTk HBk HTk2
              obtain ⟨k, hk2, rfl, HTk, HBk⟩ := hrel
              by_cases hkl : k < l2.length
              · have d1 : decide ((k : Int) < (l2.length : Int)) = true := by simpa using hkl
                obtain ⟨b, o, rfl, hcell⟩ := (H2.out.ext HBk.out) k hkl
                obtain ⟨x, _, hx, htk⟩ := gb_some l2 k hkl
                rw [hx] at hcell
                have HTK := Lib.hid htk
                clear htk hx
                go_wp2_with fail
                refine (two_next1 r1 r2 g q HQ.out (l ++ l2.take k) (l1 ++ l2.take k) x _ HTk.out).mono ?_
                rintro e w4 ⟨rfl, ht4, hg4⟩
                have HT4 := Lib.hid ht4
                have HB4 := Lib.hid (below_grown HBk.out hg4 HBk.out.size hw1)
                obtain ⟨f1, hf1⟩ : ∃ f, prN q (wnd (l ++ l2.take k ++ [x])) = f := ⟨_, rfl⟩
                rw [hf1]
                have HF1 := Lib.hid hf1
                clear ht4 hg4 hcell hf1
                go_wp2_with fail
                refine (two_next2 r1 r2 g q HQ.out (l ++ l2.take k ++ [x]) (l1 ++ l2.take k) x _ HT4.out).mono ?_
                rintro e w5 ⟨rfl, ht5, hg5⟩
                have HT5 : Hid (Two w5 r1 r2 g q (l ++ l2.take (k + 1)) (l1 ++ l2.take (k + 1))) := Lib.hid (by rw [HTK.out, ← List.append_assoc, ← List.append_assoc]; exact ht5)
                have HB5 := Lib.hid (below_grown HB4.out hg5 HB4.out.size hw2)
                by_cases h15 : 15 ≤ k
                · have hal := alone_eq (A := l1) (B := l) (b := l2) (p := q) h15 hkl
                  rw [HTK.out, ← List.append_assoc, ← List.append_assoc, HF1.out] at hal
                  rw [hal]
                  clear ht5 hg5 hal
                  go_wp2
                  exact ⟨⟨k + 1, by omega, by go_num, HT5, HB5⟩, by simp [intOf]; omega⟩
                · generalize prN q (wnd (l1 ++ l2.take k ++ [x])) = f2
                  clear ht5 hg5
                  go_wp2
                  exact ⟨⟨k + 1, by omega, by go_num, HT5, HB5⟩, by simp [intOf]; omega⟩
              · obtain rfl : k = l2.length := by omega
                go_wp2_with fail
                refine (awake_calls _).mono ?_
                rintro e w4 ⟨rfl, hb⟩
                have HB4 := Lib.hid (HBk.out.trans (hb.mono HBk.out.size))
                clear hb
                go_wp2
                go_ret
                exact ⟨rfl, HB4.out⟩
end Go.Proofs.Ytjlocegopdepeaa
