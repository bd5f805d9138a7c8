/- chunk: same; what is cut of bytes one behind the other. -/
import Derived.Test.YtmohjgcnhibkoaaLawFew
namespace Go.Proofs.Ytmohjgcnhibkoaa
open Go.RowKit
set_option linter.unusedVariables false

/-! ### plain -/
theorem cutS_append (q : Nat) (pend a b : List UInt8) : cutS q pend (a ++ b) = ((cutS q pend a).1 ++ (cutS q (cutS q pend a).2 b).1, (cutS q (cutS q pend a).2 b).2) := by
  induction b using snoc_ind with
  | h0 => simp [cutS_nil]
  | h b x ih =>
    rw [← List.append_assoc, cutS_snoc, ih, cutS_snoc]
    unfold stepC
    split <;> simp
/-- At an end of a chunk nothing waits. -/
theorem cut_at (q : Nat) (b : List UInt8) : ∀ j, j ≤ (cutS q [] b).1.length → cutS q [] ((cutS q [] b).1.take j).flatten = ((cutS q [] b).1.take j, []) := by
  induction b using snoc_ind with
  | h0 => intro j _; simp [cutS]
  | h b x ih =>
    intro j hj
    have hjn := cutS_join q [] (b ++ [x])
    rw [List.nil_append] at hjn
    have e := cutS_snoc q [] b x
    unfold stepC at e
    by_cases hE : endsN q ((cutS q [] b).2 ++ [x]) = true
    · rw [if_pos hE] at e
      rw [e] at hj hjn ⊢
      dsimp only at hj hjn ⊢
      by_cases hl : j ≤ (cutS q [] b).1.length
      · rw [List.take_append_of_le_length hl]
        exact ih j hl
      · rw [List.take_of_length_le (by rw [List.length_append, List.length_singleton]; omega)]
        rw [List.append_nil] at hjn
        rw [hjn, e]
    · rw [if_neg hE] at e
      rw [e] at hj ⊢
      exact ih j hj
theorem cut_behind (q : Nat) (b : List UInt8) (j : Nat) (hj : j ≤ (cutS q [] b).1.length) : cutS q [] (b.drop ((cutS q [] b).1.take j).flatten.length) = ((cutS q [] b).1.drop j, (cutS q [] b).2) := by
  have h1 := cut_at q b j hj
  have hjn := cutS_join q [] b
  rw [List.nil_append] at hjn
  obtain ⟨outs, hO⟩ : ∃ o, (cutS q [] b).1 = o := ⟨_, rfl⟩
  obtain ⟨rest, hR⟩ : ∃ o, (cutS q [] b).2 = o := ⟨_, rfl⟩
  rw [hO] at h1 hj hjn ⊢
  rw [hR] at hjn ⊢
  have hs : outs.flatten = (outs.take j).flatten ++ (outs.drop j).flatten := by rw [← List.flatten_append, List.take_append_drop]
  have hb : b = (outs.take j).flatten ++ ((outs.drop j).flatten ++ rest) := by rw [← List.append_assoc, ← hs, hjn]
  have hd : b.drop (outs.take j).flatten.length = (outs.drop j).flatten ++ rest := by
    conv => lhs; rw [hb]
    exact List.drop_left
  rw [hd]
  have h2 := cutS_append q [] (outs.take j).flatten ((outs.drop j).flatten ++ rest)
  rw [← hb, h1] at h2
  have e1 := congrArg Prod.fst h2
  have e2 := congrArg Prod.snd h2
  dsimp only at e1 e2
  rw [hO] at e1
  rw [hR] at e2
  have e3 : outs.drop j = (cutS q [] ((outs.drop j).flatten ++ rest)).1 := by
    conv at e1 => lhs; rw [← List.take_append_drop j outs]
    exact List.append_cancel_left e1
  exact Prod.ext e3.symm e2.symm
theorem all_behind (q : Nat) (b : List UInt8) (j : Nat) (hj : j < (allN q b).length) : allN q (b.drop ((allN q b).take j).flatten.length) = (allN q b).drop j := by
  have hj' : j ≤ (cutS q [] b).1.length := by
    unfold allN at hj
    rw [List.length_append] at hj
    split at hj <;> simp at hj <;> omega
  have et : (allN q b).take j = (cutS q [] b).1.take j := by unfold allN; rw [List.take_append_of_le_length hj']
  rw [et]
  have h := cut_behind q b j hj'
  unfold allN
  rw [h]
  dsimp only
  rw [List.drop_append_of_le_length hj']
theorem all_ne (q : Nat) (b : List UInt8) : ∀ c ∈ allN q b, c ≠ [] := by
  intro c hc
  unfold allN at hc
  rcases List.mem_append.1 hc with hc | hc
  · have := (cut_sizes q [] b (by simp) c hc).1
    intro e
    rw [e] at this
    simp at this
  · split at hc
    · simp at hc
    · rename_i h
      obtain rfl : c = (cutS q [] b).2 := by simpa using hc
      exact h
theorem all_before (q : Nat) (b : List UInt8) (j : Nat) (hj : j < (allN q b).length) : ((allN q b).take j).flatten.length < b.length := by
  have h1 := taken_step (allN q b) j hj
  have h2 := taken_le (allN q b) (j + 1)
  rw [allN_flat] at h2
  have hm : (allN q b).getD j [] ∈ allN q b := by rw [List.getD_eq_getElem?_getD, List.getElem?_eq_getElem hj]; exact List.getElem_mem hj
  have h3 := List.length_pos_iff.2 (all_ne q b _ hm)
  omega

/-! ### lists of slices -/
theorem RBB.take {w : World} {A : Option Addr} {ls : List (List UInt8)} (h : RBB w A ls) (n : Nat) : RBB w A (ls.take n) := fun i hi => by
  rw [List.length_take] at hi
  obtain ⟨b, o, A', c, e, hc, hr, hl⟩ := h i (by omega)
  have e2 : (ls.take n).getD i [] = ls.getD i [] := by rw [List.getD_eq_getElem?_getD, List.getD_eq_getElem?_getD, List.getElem?_take, if_pos (by omega)]
  exact ⟨b, o, A', c, e, by rw [e2]; exact hc, by rw [e2]; exact hr, by rw [e2]; exact hl⟩
theorem RBB.drop {w : World} {b o : Nat} {ls : List (List UInt8)} (h : RBB w (some ⟨b, o, none⟩) ls) (n : Nat) : RBB w (some ⟨b, o + n, none⟩) (ls.drop n) := fun i hi => by
  rw [List.length_drop] at hi
  obtain ⟨b', o', A', c, e, hc, hr, hl⟩ := h (n + i) (by omega)
  cases e
  have e2 : (ls.drop n).getD i [] = ls.getD (n + i) [] := by rw [List.getD_eq_getElem?_getD, List.getD_eq_getElem?_getD, List.getElem?_drop]
  exact ⟨b, o + n, A', c, rfl, by rw [e2, Nat.add_assoc]; exact hc, by rw [e2]; exact hr, by rw [e2]; exact hl⟩
theorem take_eq_succ {ls ms : List (List UInt8)} {k : Nat} (h1 : k < ls.length) (h2 : k < ms.length) (h : ls.take k = ms.take k) (e : ls.getD k [] = ms.getD k []) : ls.take (k + 1) = ms.take (k + 1) := by
  rw [List.take_succ_eq_append_getElem h1, List.take_succ_eq_append_getElem h2, h]
  rw [List.getD_eq_getElem?_getD, List.getD_eq_getElem?_getD, List.getElem?_eq_getElem h1, List.getElem?_eq_getElem h2] at e
  simp at e
  rw [e]

set_option maxRecDepth 100000 in
set_option maxHeartbeats 1000000 in
theorem same_calls (A B : Option Addr) (c d n m : Nat) (ls ms : List (List UInt8)) (hn : ls.length = n) (hm : ms.length = m) (w : World) (h : RBB w A ls) (k : RBB w B ms) (hl : n ≤ 1000000) (hl2 : m ≤ 1000000) :
    Calls Try.prog 22 #[.slice A n c, .slice B m d] w fun e w' => e = .returned (.bool (ls == ms)) ∧ w = w' := by
  have H := Lib.hid h
  have K := Lib.hid k
  clear h k
  subst hn hm
  go_enter Try.func22, Try.ntmps22
  go_wp2_with fail
  refine Calls.mono (R := fun e w' => e = .returned (.bool (ls == ms)) ∧ w = w') ?_ ?_
  · by_cases hlen : ls.length = ms.length
    · go_enter Try.func33, Try.ntmps33
      have d0 : ((ls.length : Int) != (ms.length : Int)) = false := by simp [hlen]
      have HLEN := Lib.hid hlen
      clear hlen
      go_wp2_with fail
      go_loop [17] (fun i => ∃ k : Nat, k ≤ ls.length ∧ i = .int .i64 k ∧ Hid (ls.take k = ms.take k)) (fun i => ls.length - (intOf i).toNat)
      case atStart => exact ⟨0, Nat.zero_le _, rfl, Lib.hid rfl⟩
      case round =>
        obtain ⟨k, hk, rfl, HT⟩ := hrel
        by_cases hkl : k < ls.length
        · have d1 : decide ((k : Int) < (ls.length : Int)) = true := by simpa using hkl
          have hkm : k < ms.length := by have := HLEN.out; omega
          have HKM := Lib.hid hkm
          obtain ⟨b, o, A', c', rfl, hc1, hr1, _⟩ := H.out k hkl
          obtain ⟨b2, o2, B', c2', rfl, hc2, hr2, _⟩ := K.out k hkm
          have HR1 := Lib.hid hr1
          have HR2 := Lib.hid hr2
          clear hr1 hr2
          have i1 : (k : Int) < (ms.length : Int) := by omega
          obtain ⟨x, hx⟩ : ∃ x, ls.getD k [] = x := ⟨_, rfl⟩
          obtain ⟨y, hy⟩ : ∃ y, ms.getD k [] = y := ⟨_, rfl⟩
          rw [hx] at hc1 HR1
          rw [hy] at hc2 HR2
          have HX := Lib.hid hx
          have HY := Lib.hid hy
          clear hx hy
          go_wp2_with fail
          refine (equal_calls A' B' c' c2' x y w HR1.out HR2.out).mono ?_
          rintro e w' ⟨rfl, rfl⟩
          by_cases hxy : x = y
          · have HS := Lib.hid (take_eq_succ hkl hkm HT.out (by rw [HX.out, HY.out, hxy]))
            rw [show (x == y) = true by simp [hxy]]
            clear hxy
            go_wp2
            exact ⟨⟨k + 1, by omega, by go_num, HS⟩, by simp [intOf]; omega⟩
          · have HF : Hid ((ls == ms) = false) := Lib.hid (by
              rw [beq_eq_false_iff_ne]
              intro e
              rw [e, HY.out] at HX
              exact hxy HX.out.symm)
            rw [show (x == y) = false by simp [hxy]]
            clear hxy
            go_wp2
            go_ret
            exact ⟨by rw [HF.out]; rfl, rfl⟩
        · obtain rfl : k = ls.length := by omega
          have HF : Hid ((ls == ms) = true) := Lib.hid (by
            have := HT.out
            rw [List.take_length, HLEN.out, List.take_length] at this
            simp [this])
          go_wp2
          go_ret
          exact ⟨by rw [HF.out]; rfl, rfl⟩
    · have d0 : ((ls.length : Int) != (ms.length : Int)) = true := by rw [bne_iff_ne]; omega
      have HF : Hid ((ls == ms) = false) := Lib.hid (by rw [beq_eq_false_iff_ne]; intro e; exact hlen (by rw [e]))
      go_enter Try.func33, Try.ntmps33
      go_wp2
      go_ret
      exact ⟨by rw [HF.out]; rfl, rfl⟩
  · rintro e w' ⟨rfl, rfl⟩
    go_wp2
    go_ret
    exact ⟨rfl, rfl⟩
end Go.Proofs.Ytmohjgcnhibkoaa
