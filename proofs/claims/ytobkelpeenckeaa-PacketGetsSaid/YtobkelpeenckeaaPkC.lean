/- packet: options: the walk. -/
import Derived.Test.YtobkelpeenckeaaPkB
namespace Go.Proofs.Ytobkelpeenckeaa
open Go.RowKit
set_option linter.unusedVariables false
set_option linter.unusedSimpArgs false

def prL (n : Nat) : List UInt8 := if 0 < n then [1, 10] ++ be n 8 else []
def ogL (n : Nat) : List UInt8 := if 0 < n then [2, 4] ++ be n 2 else []
def optL (pr og : Nat) : List UInt8 := prL pr ++ ogL og
theorem be_mod (n : Nat) : ∀ k m, k ≤ m → be (n % 256 ^ m) k = be n k
  | 0, _, _ => rfl
  | k + 1, m, h => by
    rw [be, be, be_mod n k m (by omega)]
    congr 1
    have e : 256 ^ m = 256 ^ k * 256 ^ (m - k) := by rw [← Nat.pow_add]; congr 1; omega
    have e2 : n % 256 ^ m / 256 ^ k = n / 256 ^ k % 256 ^ (m - k) := by rw [e, Nat.mod_mul_right_div_self]
    have e3 : 256 ^ (m - k) = 256 * 256 ^ (m - k - 1) := by rw [← Nat.pow_succ']; congr 1; omega
    rw [e2, e3]
    have h1 : (UInt8.ofNat (n / 256 ^ k % (256 * 256 ^ (m - k - 1)))).toNat = (UInt8.ofNat (n / 256 ^ k)).toNat := by
      rw [UInt8.toNat_ofNat', UInt8.toNat_ofNat']
      exact Nat.mod_mul_right_mod _ _ _
    exact UInt8.toNat_inj.1 h1
theorem be_add (n : Nat) (b : Nat) : ∀ a, be n (a + b) = be (n / 256 ^ b) a ++ be n b
  | 0 => by simp [be]
  | a + 1 => by
    rw [show a + 1 + b = (a + b) + 1 by omega, be, be_add n b a, be, List.cons_append, Nat.div_div_eq_div_mul, ← Nat.pow_add, Nat.add_comm b a]
theorem be_eight (n : Nat) : be n 8 = be (n / 4294967296) 4 ++ be (n % 4294967296) 4 := by
  have h := be_add n 4 4
  have h2 := be_mod n 4 4 (Nat.le_refl _)
  rw [show (256 : Nat) ^ 4 = 4294967296 from rfl] at h h2
  rw [h2]
  exact h
theorem prL_length (n : Nat) : (prL n).length = if 0 < n then 10 else 0 := by unfold prL; split <;> simp [be_length]
theorem ogL_length (n : Nat) : (ogL n).length = if 0 < n then 4 else 0 := by unfold ogL; split <;> simp [be_length]
theorem RB.lit2 (w : World) (e : TypeId) (x y : UInt8) : RB (w.alloc (.cells #[.int .u8 (x.toNat : Int), .int .u8 (y.toNat : Int)] e)) (some ⟨w.heap.size, 0, none⟩) [x, y] := fun i hi => by
  have hb := BK.new w e [.int .u8 (x.toNat : Int), .int .u8 (y.toNat : Int)]
  have hi2 : i < 2 := hi
  by_cases h0 : i = 0
  · subst h0; exact ⟨_, _, rfl, hb.cell (i := 0) rfl⟩
  · obtain rfl : i = 1 := by omega
    exact ⟨_, _, rfl, hb.cell (i := 1) rfl⟩

set_option maxRecDepth 100000 in
set_option maxHeartbeats 2000000 in
theorem options_n (cs : List Value) (pr og : Nat) (hcs : cs.length = 11) (h8 : cs[8]? = some (.int .i64 (pr : Int))) (h9 : cs[9]? = some (.int .i64 (og : Int))) (hpr : pr ≤ 1099511627776) (hog : og ≤ 65535) (w : World) :
    Calls Try.prog 32 #[.agg cs.toArray] w fun e w' => ∃ R d, e = .returned (.slice R (optL pr og).length d) ∧ (optL pr og).length ≤ d ∧ RB w' R (optL pr og) ∧ Below w.heap.size w w' := by
  have HK := Lib.hid (BK.new w 25 cs)
  have c8 := HK.out.cell h8
  have c9 := HK.out.cell h9
  have hB0 := ext_alloc w (.cells cs.toArray 25)
  have HB0 := Lib.hid hB0
  obtain ⟨k, hk⟩ : ∃ k, w.heap.size = k := ⟨_, rfl⟩
  have H8 := Lib.hid h8
  have H9 := Lib.hid h9
  go_enter Try.func32, Try.ntmps32
  go_upto_region 2 with fail
  rw [hk] at HK HB0
  have hk1 : k < (w.alloc (.cells cs.toArray 25)).heap.size := by rw [← hk]; simp
  have HKK := Lib.hid hk
  refine name_world (fun w1 => BK w1 k 25 cs ∧ Below k w w1 ∧ k < w1.heap.size) ⟨HK.out, HB0.out, hk1⟩ ?_
  clear HK HB0 hB0 c8 c9 hk1 h8 h9 hk
  rintro w1 ⟨hK, hB, hk1⟩
  have HK := Lib.hid hK
  have HB := Lib.hid hB
  obtain ⟨B, hBe⟩ : ∃ B, w1.heap.size = B := ⟨_, rfl⟩
  have HBe := Lib.hid hBe
  have c8 := hK.cell H8.out
  rw [hBe] at hk1
  clear hK hB hBe
  by_cases hp0 : pr = 0
  · subst hp0
    have HPL : Hid (prL 0 = []) := Lib.hid rfl
    by_cases ho0 : og = 0
    · subst ho0
      have c9 := HK.out.cell H9.out
      go_wp2
      go_ret
      exact ⟨none, 0, rfl, Nat.le_refl _, RB.nil _ _, by rw [HKK.out]; exact HB.out⟩
    · have c9 := HK.out.cell H9.out
      have hxa2 : Below B w1 (w1.alloc (.cells #[.int .u8 2, .int .u8 4] 5)) := (Below.refl B w1).alloc (by rw [HBe.out]; exact Nat.le_refl _) _
      have hsa2 : B ≤ (w1.alloc (.cells #[.int .u8 2, .int .u8 4] 5)).heap.size := by have := hxa2.size; rw [HBe.out] at this; exact this
      have c8_2 := (HK.out.ext (by rw [HBe.out]; exact hxa2)).cell H8.out
      have c9_2 := (HK.out.ext (by rw [HBe.out]; exact hxa2)).cell H9.out
      have HXA2 := Lib.hid hxa2
      clear hxa2
      go_wp2_with ((with_reducible refine (?_ : wpList _ _ _ (_ :: _) _ _)); at_builtin; refine wpList_appB rfl _ _ 23 rfl B 5 Try.underlying23 infoB _ [] rfl (OwnB.nil _ _ _) _ _ _ [2, 4] rfl rfl (RB.lit2 _ _ 2 4) (by simp [be_length]) hsa2 ?_)
      intro v2 w2 ho hg _
      obtain ⟨Av2, cv2, hv2, _, _, _⟩ := ho.form
      simp only [List.length_append, List.length_cons, List.length_nil, be_length, Nat.reduceAdd] at hv2
      subst hv2
      have ho : OwnB B 5 w2 (.slice Av2 2 cv2) ([2, 4]) := by simpa using ho
      have hx := (OwnB.nil B 5 _).below HXA2.out hg hsa2
      have hs2 : B ≤ w2.heap.size := by have := hx.size; rw [HBe.out] at this; exact this
      have HO2 := Lib.hid ho
      have HX2 := Lib.hid hx
      clear ho hx hg c8_2 c9_2
      have c8 := (HK.out.ext (by rw [HBe.out]; exact HX2.out)).cell H8.out
      have c9 := (HK.out.ext (by rw [HBe.out]; exact HX2.out)).cell H9.out
      go_wp2_with fail
      refine (two_calls og (by omega) w2).mono ?_
      rintro e w3 ⟨A3, d3, rfl, _, hr, hb⟩
      have HR3 := Lib.hid hr
      have HO3 := Lib.hid (HO2.out.ext hb)
      have HX3 := Lib.hid (HX2.out.trans (hb.mono hs2))
      have hs3 : B ≤ w3.heap.size := by have := HX3.out.size; rw [HBe.out] at this; exact this
      clear hr hb HO2 HX2
      have hxa4 : Below B w1 w3 := HX3.out
      have hsa4 : B ≤ w3.heap.size := by have := hxa4.size; rw [HBe.out] at this; exact this
      have c8_4 := (HK.out.ext (by rw [HBe.out]; exact hxa4)).cell H8.out
      have c9_4 := (HK.out.ext (by rw [HBe.out]; exact hxa4)).cell H9.out
      have HXA4 := Lib.hid hxa4
      clear hxa4
      go_wp2_with ((with_reducible refine (?_ : wpList _ _ _ (_ :: _) _ _)); at_builtin; refine wpList_appB rfl _ _ 23 rfl B 5 Try.underlying23 infoB _ ([2, 4]) rfl HO3.out _ _ _ (be og 2) rfl (be_length _ _) HR3.out (by simp [be_length]) hsa4 ?_)
      intro v4 w4 ho hg _
      obtain ⟨Av4, cv4, hv4, _, _, _⟩ := ho.form
      simp only [List.length_append, List.length_cons, List.length_nil, be_length, Nat.reduceAdd] at hv4
      subst hv4
      have ho : OwnB B 5 w4 (.slice Av4 4 cv4) ([2, 4] ++ be og 2) := by simpa using ho
      have hx := HO3.out.below HXA4.out hg hsa4
      have hs4 : B ≤ w4.heap.size := by have := hx.size; rw [HBe.out] at this; exact this
      have HO4 := Lib.hid ho
      have HX4 := Lib.hid hx
      clear ho hx hg c8_4 c9_4
      have HE : Hid ([2, 4] ++ be og 2 = optL 0 og) := Lib.hid (by show [2, 4] ++ be og 2 = optL 0 og; unfold optL ogL; rw [if_pos (by omega)]; rfl)
      have hof : OwnB B 5 w4 (.slice Av4 4 cv4) (optL 0 og) := by rw [← HE.out]; exact HO4.out
      obtain ⟨R, d, hv, hr, hd, _⟩ := hof.form
      have hv2 := hv
      clear hv
      have HR := Lib.hid hr
      clear hr hof HO4
      go_wp2
      go_ret
      exact ⟨R, d, congrArg Ending.returned hv2, hd, HR.out, by rw [HKK.out]; exact HB.out.trans (HX4.out.mono (by omega))⟩
  · obtain ⟨a, ha⟩ : ∃ a, pr / 4294967296 = a := ⟨_, rfl⟩
    obtain ⟨b, hb⟩ : ∃ b, pr % 4294967296 = b := ⟨_, rfl⟩
    have e1 : (pr : Int) / 4294967296 = (a : Int) := by omega
    have e2 : (pr : Int) % 4294967296 = (b : Int) := by omega
    have e3 : IntKind.u32.wrap (pr : Int) = (b : Int) := by rw [IntKind.wrap_u32]; omega
    have ha1 : a < 4294967296 := by omega
    have hb1 : b < 4294967296 := by omega
    have HPL : Hid (prL pr = [1, 10] ++ be a 4 ++ be b 4) := Lib.hid (by unfold prL; rw [if_pos (by omega), be_eight, ha, hb]; rfl)
    clear ha hb
    have hxa2 : Below B w1 (w1.alloc (.cells #[.int .u8 1, .int .u8 10] 5)) := (Below.refl B w1).alloc (by rw [HBe.out]; exact Nat.le_refl _) _
    have hsa2 : B ≤ (w1.alloc (.cells #[.int .u8 1, .int .u8 10] 5)).heap.size := by have := hxa2.size; rw [HBe.out] at this; exact this
    have c8_2 := (HK.out.ext (by rw [HBe.out]; exact hxa2)).cell H8.out
    have c9_2 := (HK.out.ext (by rw [HBe.out]; exact hxa2)).cell H9.out
    have HXA2 := Lib.hid hxa2
    clear hxa2
    go_wp2_with ((with_reducible refine (?_ : wpList _ _ _ (_ :: _) _ _)); at_builtin; refine wpList_appB rfl _ _ 23 rfl B 5 Try.underlying23 infoB _ [] rfl (OwnB.nil _ _ _) _ _ _ [1, 10] rfl rfl (RB.lit2 _ _ 1 10) (by simp [be_length]) hsa2 ?_)
    intro v2 w2 ho hg _
    obtain ⟨Av2, cv2, hv2, _, _, _⟩ := ho.form
    simp only [List.length_append, List.length_cons, List.length_nil, be_length, Nat.reduceAdd] at hv2
    subst hv2
    have ho : OwnB B 5 w2 (.slice Av2 2 cv2) ([1, 10]) := by simpa using ho
    have hx := (OwnB.nil B 5 _).below HXA2.out hg hsa2
    have hs2 : B ≤ w2.heap.size := by have := hx.size; rw [HBe.out] at this; exact this
    have HO2 := Lib.hid ho
    have HX2 := Lib.hid hx
    clear ho hx hg c8_2 c9_2
    have c8 := (HK.out.ext (by rw [HBe.out]; exact HX2.out)).cell H8.out
    have c9 := (HK.out.ext (by rw [HBe.out]; exact HX2.out)).cell H9.out
    go_wp2_with fail
    refine (four_calls a ha1 w2).mono ?_
    rintro e w3 ⟨A3, d3, rfl, _, hr, hb⟩
    have HR3 := Lib.hid hr
    have HO3 := Lib.hid (HO2.out.ext hb)
    have HX3 := Lib.hid (HX2.out.trans (hb.mono hs2))
    have hs3 : B ≤ w3.heap.size := by have := HX3.out.size; rw [HBe.out] at this; exact this
    clear hr hb HO2 HX2
    have hxa4 : Below B w1 w3 := HX3.out
    have hsa4 : B ≤ w3.heap.size := by have := hxa4.size; rw [HBe.out] at this; exact this
    have c8_4 := (HK.out.ext (by rw [HBe.out]; exact hxa4)).cell H8.out
    have c9_4 := (HK.out.ext (by rw [HBe.out]; exact hxa4)).cell H9.out
    have HXA4 := Lib.hid hxa4
    clear hxa4
    go_wp2_with ((with_reducible refine (?_ : wpList _ _ _ (_ :: _) _ _)); at_builtin; refine wpList_appB rfl _ _ 23 rfl B 5 Try.underlying23 infoB _ [1, 10] rfl HO3.out _ _ _ (be a 4) rfl (be_length _ _) HR3.out (by simp [be_length]) hsa4 ?_)
    intro v4 w4 ho hg _
    obtain ⟨Av4, cv4, hv4, _, _, _⟩ := ho.form
    simp only [List.length_append, List.length_cons, List.length_nil, be_length, Nat.reduceAdd] at hv4
    subst hv4
    have ho : OwnB B 5 w4 (.slice Av4 6 cv4) ([1, 10] ++ be a 4) := by simpa using ho
    have hx := HO3.out.below HXA4.out hg hsa4
    have hs4 : B ≤ w4.heap.size := by have := hx.size; rw [HBe.out] at this; exact this
    have HO4 := Lib.hid ho
    have HX4 := Lib.hid hx
    clear ho hx hg c8_4 c9_4
    have c8b := (HK.out.ext (by rw [HBe.out]; exact HX4.out)).cell H8.out
    have c9b := (HK.out.ext (by rw [HBe.out]; exact HX4.out)).cell H9.out
    go_wp2_with fail
    refine (four_calls b hb1 w4).mono ?_
    rintro e w5 ⟨A5, d5, rfl, _, hr, hb⟩
    have HR5 := Lib.hid hr
    have HO5 := Lib.hid (HO4.out.ext hb)
    have HX5 := Lib.hid (HX4.out.trans (hb.mono hs4))
    have hs5 : B ≤ w5.heap.size := by have := HX5.out.size; rw [HBe.out] at this; exact this
    clear hr hb HO4 HX4
    have hxa6 : Below B w1 w5 := HX5.out
    have hsa6 : B ≤ w5.heap.size := by have := hxa6.size; rw [HBe.out] at this; exact this
    have c8_6 := (HK.out.ext (by rw [HBe.out]; exact hxa6)).cell H8.out
    have c9_6 := (HK.out.ext (by rw [HBe.out]; exact hxa6)).cell H9.out
    have HXA6 := Lib.hid hxa6
    clear hxa6
    go_wp2_with ((with_reducible refine (?_ : wpList _ _ _ (_ :: _) _ _)); at_builtin; refine wpList_appB rfl _ _ 23 rfl B 5 Try.underlying23 infoB _ ([1, 10] ++ be a 4) rfl HO5.out _ _ _ (be b 4) rfl (be_length _ _) HR5.out (by simp [be_length]) hsa6 ?_)
    intro v6 w6 ho hg _
    obtain ⟨Av6, cv6, hv6, _, _, _⟩ := ho.form
    simp only [List.length_append, List.length_cons, List.length_nil, be_length, Nat.reduceAdd] at hv6
    subst hv6
    have ho : OwnB B 5 w6 (.slice Av6 10 cv6) ([1, 10] ++ be a 4 ++ be b 4) := by simpa using ho
    have hx := HO5.out.below HXA6.out hg hsa6
    have hs6 : B ≤ w6.heap.size := by have := hx.size; rw [HBe.out] at this; exact this
    have HO6 := Lib.hid ho
    have HX6 := Lib.hid hx
    clear ho hx hg c8_6 c9_6
    have c8d := (HK.out.ext (by rw [HBe.out]; exact HX6.out)).cell H8.out
    have c9d := (HK.out.ext (by rw [HBe.out]; exact HX6.out)).cell H9.out
    by_cases ho0 : og = 0
    · subst ho0
      have HE : Hid ([1, 10] ++ be a 4 ++ be b 4 = optL pr 0) := Lib.hid (by unfold optL; rw [HPL.out]; unfold ogL; simp)
      have hof : OwnB B 5 w6 (.slice Av6 10 cv6) (optL pr 0) := by rw [← HE.out]; exact HO6.out
      obtain ⟨R, d, hv, hr, hd, _⟩ := hof.form
      have hv2 := hv
      clear hv
      have HR := Lib.hid hr
      clear hr hof HO6
      go_wp2
      go_ret
      exact ⟨R, d, congrArg Ending.returned hv2, hd, HR.out, by rw [HKK.out]; exact HB.out.trans (HX6.out.mono (by omega))⟩
    · skip
      have hxa7 : Below B w1 (w6.alloc (.cells #[.int .u8 2, .int .u8 4] 5)) := HX6.out.alloc hs6 _
      have hsa7 : B ≤ (w6.alloc (.cells #[.int .u8 2, .int .u8 4] 5)).heap.size := by have := hxa7.size; rw [HBe.out] at this; exact this
      have c8_7 := (HK.out.ext (by rw [HBe.out]; exact hxa7)).cell H8.out
      have c9_7 := (HK.out.ext (by rw [HBe.out]; exact hxa7)).cell H9.out
      have HXA7 := Lib.hid hxa7
      clear hxa7
      go_wp2_with ((with_reducible refine (?_ : wpList _ _ _ (_ :: _) _ _)); at_builtin; refine wpList_appB rfl _ _ 23 rfl B 5 Try.underlying23 infoB _ ([1, 10] ++ be a 4 ++ be b 4) rfl (HO6.out.ext (ext_alloc _ _)) _ _ _ [2, 4] rfl rfl (RB.lit2 _ _ 2 4) (by simp [be_length]) hsa7 ?_)
      intro v7 w7 ho hg _
      obtain ⟨Av7, cv7, hv7, _, _, _⟩ := ho.form
      simp only [List.length_append, List.length_cons, List.length_nil, be_length, Nat.reduceAdd] at hv7
      subst hv7
      have ho : OwnB B 5 w7 (.slice Av7 12 cv7) (([1, 10] ++ be a 4 ++ be b 4) ++ [2, 4]) := by simpa using ho
      have hx := (HO6.out.ext (ext_alloc _ _)).below HXA7.out hg hsa7
      have hs7 : B ≤ w7.heap.size := by have := hx.size; rw [HBe.out] at this; exact this
      have HO7 := Lib.hid ho
      have HX7 := Lib.hid hx
      clear ho hx hg c8_7 c9_7
      have c8 := (HK.out.ext (by rw [HBe.out]; exact HX7.out)).cell H8.out
      have c9 := (HK.out.ext (by rw [HBe.out]; exact HX7.out)).cell H9.out
      go_wp2_with fail
      refine (two_calls og (by omega) w7).mono ?_
      rintro e w8 ⟨A8, d8, rfl, _, hr, hb⟩
      have HR8 := Lib.hid hr
      have HO8 := Lib.hid (HO7.out.ext hb)
      have HX8 := Lib.hid (HX7.out.trans (hb.mono hs7))
      have hs8 : B ≤ w8.heap.size := by have := HX8.out.size; rw [HBe.out] at this; exact this
      clear hr hb HO7 HX7
      have hxa9 : Below B w1 w8 := HX8.out
      have hsa9 : B ≤ w8.heap.size := by have := hxa9.size; rw [HBe.out] at this; exact this
      have c8_9 := (HK.out.ext (by rw [HBe.out]; exact hxa9)).cell H8.out
      have c9_9 := (HK.out.ext (by rw [HBe.out]; exact hxa9)).cell H9.out
      have HXA9 := Lib.hid hxa9
      clear hxa9
      go_wp2_with ((with_reducible refine (?_ : wpList _ _ _ (_ :: _) _ _)); at_builtin; refine wpList_appB rfl _ _ 23 rfl B 5 Try.underlying23 infoB _ (([1, 10] ++ be a 4 ++ be b 4) ++ [2, 4]) rfl HO8.out _ _ _ (be og 2) rfl (be_length _ _) HR8.out (by simp [be_length]) hsa9 ?_)
      intro v9 w9 ho hg _
      obtain ⟨Av9, cv9, hv9, _, _, _⟩ := ho.form
      simp only [List.length_append, List.length_cons, List.length_nil, be_length, Nat.reduceAdd] at hv9
      subst hv9
      have ho : OwnB B 5 w9 (.slice Av9 14 cv9) ((([1, 10] ++ be a 4 ++ be b 4) ++ [2, 4]) ++ be og 2) := by simpa using ho
      have hx := HO8.out.below HXA9.out hg hsa9
      have hs9 : B ≤ w9.heap.size := by have := hx.size; rw [HBe.out] at this; exact this
      have HO9 := Lib.hid ho
      have HX9 := Lib.hid hx
      clear ho hx hg c8_9 c9_9
      have HE : Hid ((([1, 10] ++ be a 4 ++ be b 4) ++ [2, 4]) ++ be og 2 = optL pr og) := Lib.hid (by unfold optL; rw [HPL.out]; unfold ogL; rw [if_pos (by omega)]; simp)
      have hof : OwnB B 5 w9 (.slice Av9 14 cv9) (optL pr og) := by rw [← HE.out]; exact HO9.out
      obtain ⟨R, d, hv, hr, hd, _⟩ := hof.form
      have hv2 := hv
      clear hv
      have HR := Lib.hid hr
      clear hr hof HO9
      go_wp2
      go_ret
      exact ⟨R, d, congrArg Ending.returned hv2, hd, HR.out, by rw [HKK.out]; exact HB.out.trans (HX9.out.mono (by omega))⟩
end Go.Proofs.Ytobkelpeenckeaa
