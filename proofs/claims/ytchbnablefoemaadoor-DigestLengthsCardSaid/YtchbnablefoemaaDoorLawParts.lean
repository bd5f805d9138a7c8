/- The walk of the law DigestParts; what the laws on parts count. -/
import Derived.Test.YtchbnablefoemaaDoorLawNobody
namespace Go.Proofs.YtchbnablefoemaaDoor
open Go.RowKit
set_option linter.unusedVariables false

/-- What the laws count of parts. -/
def nTo (ls : List (List UInt8)) : Nat → Nat
  | 0 => 0
  | k + 1 => nTo ls k + (1 + min (ls.getD k []).length 8192)
theorem nTo_mono (ls : List (List UInt8)) (k d : Nat) : nTo ls k ≤ nTo ls (k + d) := by
  induction d with
  | zero => exact Nat.le_refl _
  | succ d ih => exact Nat.le_trans ih (by rw [← Nat.add_assoc]; simp only [nTo]; omega)
theorem nTo_le (ls : List (List UInt8)) (k m : Nat) (h : k ≤ m) : nTo ls k ≤ nTo ls m := by
  have := nTo_mono ls k (m - k)
  rwa [show k + (m - k) = m by omega] at this
theorem nTo_cat (ls : List (List UInt8)) (m : Nat) (h : nTo ls m ≤ 8192) : ∀ k, k ≤ m → (catTo ls k).length ≤ nTo ls k := by
  intro k
  induction k with
  | zero => intro _; exact Nat.le_refl _
  | succ k ih =>
    intro hk
    have h1 := nTo_le ls (k + 1) m hk
    have h2 := ih (by omega)
    have e : (catTo ls (k + 1)).length = (catTo ls k).length + (ls.getD k []).length := List.length_append
    simp only [nTo] at h1 ⊢
    omega
theorem nTo_count (ls : List (List UInt8)) (k : Nat) : k ≤ nTo ls k := by
  induction k with
  | zero => exact Nat.le_refl _
  | succ k ih => simp only [nTo]; omega
theorem catTo_one (l : List UInt8) : catTo [l] [l].length = l := by simp [catTo]
theorem one_cat_le {l : List UInt8} {M : Nat} (h : l.length ≤ M) : (catTo [l] [l].length).length ≤ M := by rw [catTo_one]; exact h

set_option maxRecDepth 8000 in
set_option maxHeartbeats 1000000 in
theorem parts_walk (w : World) (hT : Tabs w) (A : Option Addr) (c : Nat) (ls : List (List UInt8)) (h : RBB w A ls) (hc : ls.length ≤ c) (hn : ls.length ≤ 5864062014640) (hl : ∀ i, i < ls.length → (ls.getD i []).length ≤ 140737488351232) :
    Calls Tryd.prog 8 #[.slice A ls.length c] w fun e w' => e = .returned (.bool true) ∧ Below w.heap.size w w' := by
  have HT := Lib.hid hT
  have H := Lib.hid h
  have HL := Lib.hid hl
  clear hT h hl
  go_enter Tryd.func8, Tryd.ntmps8
  go_wp2_with fail
  go_loop [3, 4] (fun v i => ∃ k : Nat, k ≤ ls.length ∧ i = .int .i64 k ∧ v = .int .i64 (nTo ls k : Nat) ∧ nTo ls k ≤ 16385) (fun _ i => ls.length - (intOf i).toNat)
  case atStart => exact ⟨0, Nat.zero_le _, rfl, rfl, by simp [nTo]⟩
  case round =>
    obtain ⟨k, hk, rfl, rfl, hk2⟩ := hrel
    by_cases h3 : nTo ls k ≤ 8192
    · by_cases h1 : k < ls.length
      · have d1 : decide ((k : Int) < (ls.length : Int)) = true := by simpa using h1
        obtain ⟨b, o, A', c', rfl, hc', hr, hl'⟩ := H.out k h1
        have hs : Hid (nTo ls (k + 1) = nTo ls k + (1 + min (ls.getD k []).length 8192)) := rfl
        have hlen := HL.out k h1
        clear hr
        generalize ls.getD k [] = p at *
        generalize nTo ls k = q at *
        go_wp2
        have h4 : nTo ls (k + 1) ≤ 16385 := by rw [hs.out]; omega
        refine ⟨⟨k + 1, by omega, by go_num, ?_, h4⟩, by simp [intOf]; omega⟩
        rw [hs.out]
        congr 1
        split <;> omega
      · obtain rfl : k = ls.length := by omega
        have hcat := nTo_cat ls ls.length h3 ls.length (Nat.le_refl _)
        have hcl : (catTo ls ls.length).length ≤ 8192 := by omega
        have HC := Lib.hid hcl
        have EQ := Lib.hid eq32
        clear hcat hcl
        go_wp2_with fail
        refine (of_calls A c ls w HT.out H.out (by omega) (by have := HC.out; omega)).mono ?_
        rintro e w1 ⟨rfl, hb1⟩
        have HB1 := Lib.hid hb1
        clear hb1
        have hD := sumL_length (catTo ls ls.length)
        have HD : Hid (∀ _ : Unit, sumL (catTo [catTo ls ls.length] [catTo ls ls.length].length) = sumL (catTo ls ls.length)) := Lib.hid fun _ => by rw [catTo_one]
        go_wp2_with fail
        refine (concat_calls A c ls w1 (H.out.ext HB1.out) (by omega) (by have := HC.out; omega)).mono ?_
        rintro e w2 ⟨v2, rfl, ho, hb2⟩
        obtain ⟨A2, c2, rfl, hr2, hc2, _⟩ := ho.form
        have HB2 := Lib.hid (ext_trans HB1.out hb2)
        have HR2 := Lib.hid hr2
        have HCC := Lib.hid hc2
        obtain ⟨L, hL⟩ : ∃ L, (catTo ls ls.length).length = L := ⟨_, rfl⟩
        have HLn := Lib.hid hL
        rw [hL]
        clear ho hb2 hr2 hc2 hL
        go_wp2_with fail
        have hone := RBB.one A2 c2 L (catTo ls ls.length) HR2.out HLn.out.symm (by rw [← HLn.out]; exact HCC.out) 22
        refine (of_calls _ 1 [catTo ls ls.length] _ (HT.out.ext (ext_trans HB2.out (ext_alloc _ _))) hone (by simp) (one_cat_le (by have := HC.out; omega))).mono ?_
        rintro e w3 ⟨rfl, hb3⟩
        have HB3 := Lib.hid (ext_trans (ext_trans HB2.out (ext_alloc _ _)) hb3)
        rw [HD.out ()]
        have kq : ∀ W : World, (binOp .eql 33 (.agg ((sumL (catTo ls ls.length)).map vb).toArray) (.agg ((sumL (catTo ls ls.length)).map vb).toArray)).run Tryd.prog W = .ok (.bool true) W := fun W => by
          rw [EQ.out W _ _ hD hD]; simp
        generalize sumL (catTo ls ls.length) = D at *
        clear hb3 hone hD
        go_wp2_with fail
        refine (awake_calls _ (HT.out.ext HB3.out)).mono ?_
        rintro e w4 ⟨rfl, hb4⟩
        have HB4 := Lib.hid (ext_trans HB3.out hb4)
        clear hb4
        go_wp2
        go_ret
        exact ⟨rfl, HB4.out⟩
    · by_cases h1 : k < ls.length
      · have d1 : decide ((k : Int) < (ls.length : Int)) = true := by simpa using h1
        generalize nTo ls k = q at *
        go_wp2_with fail
        refine (awake_calls _ HT.out).mono ?_
        rintro e w4 ⟨rfl, hb4⟩
        have HB4 := Lib.hid hb4
        clear hb4
        go_wp2
        go_ret
        exact ⟨rfl, HB4.out⟩
      · obtain rfl : k = ls.length := by omega
        generalize nTo ls ls.length = q at *
        go_wp2_with fail
        refine (awake_calls _ HT.out).mono ?_
        rintro e w4 ⟨rfl, hb4⟩
        have HB4 := Lib.hid hb4
        clear hb4
        go_wp2
        go_ret
        exact ⟨rfl, HB4.out⟩
end Go.Proofs.YtchbnablefoemaaDoor
