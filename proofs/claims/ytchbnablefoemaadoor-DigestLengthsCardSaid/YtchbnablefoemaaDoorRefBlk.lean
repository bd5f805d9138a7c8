/- flumeref08.block, as it is printed, is stirL: plain. -/
import Derived.Test.YtchbnablefoemaaDoorPDigestSumsx2
import Derived.Test.YtchbnablefoemaaDoorHashA
namespace Go.Proofs.YtchbnablefoemaaDoor
open Go.RowKit Go.Proofs.YtchbnablefoemaaDoorW.PrintWords Go.Proofs.YtchbnablefoemaaDoorW.PrintLast Go.Proofs.YtchbnablefoemaaDoorW.PrintMore PDigestSums
set_option linter.unusedVariables false

def ci (l : List Nat) : List Int := l.map fun x : Nat => (x : Int)
def bi (l : List UInt8) : List Int := l.map fun x : UInt8 => (x.toNat : Int)
theorem ci_length (l : List Nat) : (ci l).length = l.length := by simp [ci]
theorem bi_length (l : List UInt8) : (bi l).length = l.length := by simp [bi]
theorem rd_ci (l : List Nat) (i : Nat) : rd (ci l) (i : Int) = (gw l i : Int) := by
  unfold rd ci gw
  rw [Int.toNat_natCast, List.getD_eq_getElem?_getD, List.getD_eq_getElem?_getD, List.getElem?_map]
  cases l[i]? <;> rfl
theorem rd_bi (l : List UInt8) (i : Nat) : rd (bi l) (i : Int) = (gb l i : Int) := by
  unfold rd bi gb
  rw [Int.toNat_natCast, List.getD_eq_getElem?_getD, List.getD_eq_getElem?_getD, List.getElem?_map]
  cases l[i]? <;> rfl
theorem ci_snoc (l : List Nat) (x : Nat) : ci (l ++ [x]) = ci l ++ [(x : Int)] := by simp [ci]
theorem w64_nat (n : Nat) (h : n < 9223372036854775808) : wrap64 (n : Int) = (n : Int) := by unfold wrap64; omega

theorem rotr_f (x n : Nat) (hx : x < 4294967296) (h1 : 1 ≤ n) (h2 : n ≤ 31) : flumeref08_rotr.f (x : Int) (n : Int) = some ((rotr x n : Nat) : Int) := by
  have hw : IntKind.u64.wrap (32 - (n : Int)) = ((32 - n : Nat) : Int) := by
    have h : ∀ y : Int, IntKind.u64.wrap y = y % 18446744073709551616 := fun y => by simp [IntKind.wrap, IntKind.bits, IntKind.signed]
    rw [h]; omega
  unfold flumeref08_rotr.f
  rw [hw, if_pos (by omega), if_pos (by omega)]
  congr 1
  have e1 : shr .u32 (x : Int) (n : Int) = ((x / 2 ^ n : Nat) : Int) := by
    unfold shr
    rw [Int.toNat_natCast, Nat.min_eq_left (by simp only [IntKind.bits]; omega)]
    simp
  have e2 : shl .u32 (x : Int) ((32 - n : Nat) : Int) = ((x * 2 ^ (32 - n) % 4294967296 : Nat) : Int) := by
    unfold shl
    rw [Int.toNat_natCast, Nat.min_eq_left (by simp only [IntKind.bits]; omega)]
    have := wrap_u32_nat (x * 2 ^ (32 - n))
    rw [← this]
    congr 1
  rw [e1, e2]
  have := or_u32 (x / 2 ^ n) (x * 2 ^ (32 - n) % 4294967296) (Nat.lt_of_le_of_lt (Nat.div_le_self _ _) hx) (Nat.mod_lt _ (by decide))
  rw [this, Nat.or_comm]
  rfl

theorem be4_sum (l : List UInt8) (i : Nat) : be4 l i = gb l (4 * i) * 16777216 + gb l (4 * i + 1) * 65536 + gb l (4 * i + 2) * 256 + gb l (4 * i + 3) := by
  have h0 := gb_lt l (4 * i); have h1 := gb_lt l (4 * i + 1); have h2 := gb_lt l (4 * i + 2); have h3 := gb_lt l (4 * i + 3)
  unfold be4
  generalize gb l (4 * i) = a at *
  generalize gb l (4 * i + 1) = b at *
  generalize gb l (4 * i + 2) = c at *
  generalize gb l (4 * i + 3) = d at *
  have o : ∀ (n x y : Nat), y < 2 ^ n → x * 2 ^ n ||| y = x * 2 ^ n + y := fun n x y h => by rw [Nat.mul_comm, Nat.two_pow_add_eq_or_of_lt h]
  have e1 : a * 16777216 ||| b * 65536 = (a * 256 + b) * 65536 := by
    have := o 24 a (b * 65536) (by simp; omega)
    simp at this
    rw [this]; omega
  have e2 : (a * 256 + b) * 65536 ||| c * 256 = ((a * 256 + b) * 256 + c) * 256 := by
    have := o 16 (a * 256 + b) (c * 256) (by simp; omega)
    simp at this
    rw [this]; omega
  have e3 := o 8 ((a * 256 + b) * 256 + c) d (by simp; omega)
  simp at e3
  rw [e1, e2, e3]
  omega

/-- The words, one behind the other. -/
def wl (b : List UInt8) : Nat → List Nat
  | 0 => []
  | i + 1 => wl b i ++ [if i < 16 then be4 b i else wNext (wl b i) i]
theorem wl_length (b : List UInt8) (i : Nat) : (wl b i).length = i := by induction i with
  | zero => rfl
  | succ i ih => simp [wl, ih]
theorem gw_snoc (l : List Nat) (x j : Nat) : gw (l ++ [x]) j = if j < l.length then gw l j else if j = l.length then x else 0 := by
  unfold gw
  rw [List.getD_eq_getElem?_getD, List.getD_eq_getElem?_getD, List.getElem?_append]
  split
  · rfl
  · split
    · rename_i h; rw [h, Nat.sub_self]; rfl
    · rename_i h1 h2
      rw [List.getElem?_eq_none (by simp; omega)]; rfl
theorem wl_words (b : List UInt8) (i : Nat) : Words (wl b i) := by induction i with
  | zero => intro j; simp [wl, gw]
  | succ i ih =>
    intro j
    rw [wl, gw_snoc]
    split
    · exact ih j
    · split
      · split
        · exact be4_lt b i
        · exact wNext_lt _ _
      · decide
theorem wl_spr1 (b : List UInt8) (k : Nat) (hk : k ≤ 16) : ∀ j, j < k → gw (spr1 b k) j = gw (wl b k) j := by
  induction k with
  | zero => intro j h; omega
  | succ k ih =>
    intro j hj
    rw [spr1, gw_set _ _ _ _ (by rw [spr1_length]; omega), wl, gw_snoc, wl_length, if_pos (show k < 16 by omega)]
    by_cases e : k = j
    · subst e; rw [if_pos rfl, if_neg (by omega), if_pos rfl]
    · rw [if_neg e, if_pos (by omega)]; exact ih (by omega) j (by omega)
theorem wl_spr2 (b : List UInt8) (k : Nat) (hk : k ≤ 48) : ∀ j, j < 16 + k → gw (spr2 b k) j = gw (wl b (16 + k)) j := by
  induction k with
  | zero => exact wl_spr1 b 16 (Nat.le_refl _)
  | succ k ih =>
    intro j hj
    have ih := ih (by omega)
    rw [spr2, gw_set _ _ _ _ (by rw [spr2_length]; omega), ← Nat.add_assoc, wl, gw_snoc, wl_length, if_neg (show ¬ 16 + k < 16 by omega)]
    have e2 : wNext (spr2 b k) (16 + k) = wNext (wl b (16 + k)) (16 + k) := by
      unfold wNext
      rw [ih _ (by omega), ih _ (by omega), ih _ (by omega), ih _ (by omega)]
    by_cases e : 16 + k = j
    · subst e; rw [if_pos rfl, if_neg (by omega), if_pos rfl, e2]
    · rw [if_neg e, if_pos (by omega)]; exact ih j (by omega)
theorem wl_spread (b : List UInt8) : ∀ j, j < 64 → gw (spreadL b) j = gw (wl b 64) j := wl_spr2 b 48 (Nat.le_refl _)

theorem l0_lo (k : Nat) (x0 x1 : List Int) (b : List UInt8) (hb : b.length = 64) (i : Nat) (hi : i < 16) :
    flumeref08_block.l0 (k + 1) x0 x1 (bi b) (ci (wl b i)) (i : Int) = flumeref08_block.l0 k x0 x1 (bi b) (ci (wl b (i + 1))) ((i + 1 : Nat) : Int) := by
  have e0 : wrap64 (4 * (i : Int)) = ((4 * i : Nat) : Int) := by rw [← w64_nat (4 * i) (by omega)]; congr 1
  have e1 : wrap64 (((4 * i : Nat) : Int) + 1) = ((4 * i + 1 : Nat) : Int) := by rw [← w64_nat (4 * i + 1) (by omega)]; congr 1
  have e2 : wrap64 (((4 * i : Nat) : Int) + 2) = ((4 * i + 2 : Nat) : Int) := by rw [← w64_nat (4 * i + 2) (by omega)]; congr 1
  have e3 : wrap64 (((4 * i : Nat) : Int) + 3) = ((4 * i + 3 : Nat) : Int) := by rw [← w64_nat (4 * i + 3) (by omega)]; congr 1
  have e4 : wrap64 ((i : Int) + 1) = ((i + 1 : Nat) : Int) := by rw [← w64_nat (i + 1) (by omega)]; congr 1
  simp only [flumeref08_block.l0]
  rw [e0, e1, e2, e3, e4, bi_length, hb, ci_length, wl_length, rd_bi, rd_bi, rd_bi, rd_bi]
  rw [wl, if_pos hi, ci_snoc, be4_sum]
  have h0 := gb_lt b (4 * i); have h1 := gb_lt b (4 * i + 1); have h2 := gb_lt b (4 * i + 2); have h3 := gb_lt b (4 * i + 3)
  generalize gb b (4 * i) = p at *
  generalize gb b (4 * i + 1) = q at *
  generalize gb b (4 * i + 2) = r at *
  generalize gb b (4 * i + 3) = s at *
  repeat rw [if_pos (by omega)]
  congr 3
  omega

theorem xor_M (a b : Nat) (ha : a < 4294967296) (hb : b < 4294967296) : Go.bits .xor .u32 (a : Int) (b : Int) = ((a ^^^ b : Nat) : Int) := xor_u32 a b ha hb
theorem and_M (a b : Nat) (ha : a < 4294967296) (hb : b < 4294967296) : Go.bits .and .u32 (a : Int) (b : Int) = ((a &&& b : Nat) : Int) := and_u32 a b ha hb
theorem l0_hi (k : Nat) (x0 x1 : List Int) (b : List UInt8) (i : Nat) (hi : 16 ≤ i) (hi2 : i < 64) :
    flumeref08_block.l0 (k + 1) x0 x1 (bi b) (ci (wl b i)) (i : Int) = flumeref08_block.l0 k x0 x1 (bi b) (ci (wl b (i + 1))) ((i + 1 : Nat) : Int) := by
  have e0 : wrap64 ((i : Int) - 15) = ((i - 15 : Nat) : Int) := by rw [← w64_nat (i - 15) (by omega)]; congr 1; omega
  have e1 : wrap64 ((i : Int) - 2) = ((i - 2 : Nat) : Int) := by rw [← w64_nat (i - 2) (by omega)]; congr 1; omega
  have e2 : wrap64 ((i : Int) - 16) = ((i - 16 : Nat) : Int) := by rw [← w64_nat (i - 16) (by omega)]; congr 1; omega
  have e3 : wrap64 ((i : Int) - 7) = ((i - 7 : Nat) : Int) := by rw [← w64_nat (i - 7) (by omega)]; congr 1; omega
  have e4 : wrap64 ((i : Int) + 1) = ((i + 1 : Nat) : Int) := by rw [← w64_nat (i + 1) (by omega)]; congr 1
  have h15 := wl_words b i (i - 15)
  have h2 := wl_words b i (i - 2)
  have h16 := wl_words b i (i - 16)
  have h7 := wl_words b i (i - 7)
  simp only [flumeref08_block.l0]
  rw [e0, e1, e2, e3, e4, ci_length, wl_length, rd_ci, rd_ci, rd_ci, rd_ci]
  rw [wl, if_neg (show ¬ i < 16 by omega), ci_snoc, wNext]
  generalize gw (wl b i) (i - 15) = p at *
  generalize gw (wl b i) (i - 2) = q at *
  generalize gw (wl b i) (i - 16) = r at *
  generalize gw (wl b i) (i - 7) = s at *
  have r1 := rotr_f p 7 h15 (by decide) (by decide)
  have r2 := rotr_f p 18 h15 (by decide) (by decide)
  have r3 := rotr_f q 17 h2 (by decide) (by decide)
  have r4 := rotr_f q 19 h2 (by decide) (by decide)
  rw [show ((7 : Nat) : Int) = 7 from rfl] at r1
  rw [show ((18 : Nat) : Int) = 18 from rfl] at r2
  rw [show ((17 : Nat) : Int) = 17 from rfl] at r3
  rw [show ((19 : Nat) : Int) = 19 from rfl] at r4
  rw [r1, r2, r3, r4]
  simp only [Option.bind_some]
  have q1 : (p : Int) / 8 = ((p / 8 : Nat) : Int) := by omega
  have q2 : (q : Int) / 1024 = ((q / 1024 : Nat) : Int) := by omega
  rw [q1, q2, xor_M _ _ (rotr_lt p 7 h15) (rotr_lt p 18 h15), xor_M _ _ (rotr_lt q 17 h2) (rotr_lt q 19 h2), xor_M _ _ (xor_lt32 (rotr_lt p 7 h15) (rotr_lt p 18 h15)) (by omega), xor_M _ _ (xor_lt32 (rotr_lt q 17 h2) (rotr_lt q 19 h2)) (by omega)]
  rw [show rotr p 7 ^^^ rotr p 18 ^^^ p / 8 = sg0 p from rfl, show rotr q 17 ^^^ rotr q 19 ^^^ q / 1024 = sg1 q from rfl]
  generalize sg0 p = u at *
  generalize sg1 q = v at *
  rw [if_pos (by omega), if_neg (by omega)]
  repeat rw [if_pos (by omega)]
  congr 3
  omega
theorem l0_run (K : Nat) (x0 x1 : List Int) (b : List UInt8) (hb : b.length = 64) (d : Nat) : ∀ i, i + d = 64 → flumeref08_block.l0 (K + d) x0 x1 (bi b) (ci (wl b i)) (i : Int) = flumeref08_block.l0 K x0 x1 (bi b) (ci (wl b 64)) 64 := by
  induction d with
  | zero => intro i hi; obtain rfl : i = 64 := by omega
            rfl
  | succ d ih =>
    intro i hi
    rw [← Nat.add_assoc]
    by_cases h : i < 16
    · rw [l0_lo _ _ _ _ hb i h]; exact ih (i + 1) (by omega)
    · rw [l0_hi _ _ _ _ i (by omega) (by omega)]; exact ih (i + 1) (by omega)
theorem l1_step (k : Nat) (x0 : List Int) (X W : List Nat) (hX : X.length = 8) (hXw : Words X) (hW : W.length = 64) (t : Nat) (ht : t < 64) :
    flumeref08_block.l1 (k + 1) x0 (ci roundsL) (ci W) (ci X) (t : Int) = flumeref08_block.l1 k x0 (ci roundsL) (ci W) (ci (rnd X (gw roundsL t) (gw W t))) ((t + 1 : Nat) : Int) := by
  have e4 : wrap64 ((t : Int) + 1) = ((t + 1 : Nat) : Int) := by rw [← w64_nat (t + 1) (by omega)]; congr 1
  have hR : roundsL.length = 64 := rfl
  match X, hX, hXw with
  | [a, b, c, d, e, f, g, h], _, hXw =>
    have ha : a < 4294967296 := hXw 0
    have hb : b < 4294967296 := hXw 1
    have hc : c < 4294967296 := hXw 2
    have he : e < 4294967296 := hXw 4
    have hf : f < 4294967296 := hXw 5
    have hg : g < 4294967296 := hXw 6
    have q0 : rd (ci [a, b, c, d, e, f, g, h]) 0 = (a : Int) := rfl
    have q1 : rd (ci [a, b, c, d, e, f, g, h]) 1 = (b : Int) := rfl
    have q2 : rd (ci [a, b, c, d, e, f, g, h]) 2 = (c : Int) := rfl
    have q4 : rd (ci [a, b, c, d, e, f, g, h]) 4 = (e : Int) := rfl
    have q5 : rd (ci [a, b, c, d, e, f, g, h]) 5 = (f : Int) := rfl
    have q6 : rd (ci [a, b, c, d, e, f, g, h]) 6 = (g : Int) := rfl
    have q7 : rd (ci [a, b, c, d, e, f, g, h]) 7 = (h : Int) := rfl
    have qt : (ci [a, b, c, d, e, f, g, h]).take 7 = ci [a, b, c, d, e, f, g] := rfl
    have hl : (ci [a, b, c, d, e, f, g, h]).length = 8 := rfl
    simp only [flumeref08_block.l1]
    rw [e4, hl, q0, q1, q2, q4, q5, q6, q7, qt, rd_ci, rd_ci, ci_length, hR, ci_length, hW]
    have r1 := rotr_f e 6 he (by decide) (by decide)
    have r2 := rotr_f e 11 he (by decide) (by decide)
    have r3 := rotr_f e 25 he (by decide) (by decide)
    have r4 := rotr_f a 2 ha (by decide) (by decide)
    have r5 := rotr_f a 13 ha (by decide) (by decide)
    have r6 := rotr_f a 22 ha (by decide) (by decide)
    rw [show ((6 : Nat) : Int) = 6 from rfl] at r1
    rw [show ((11 : Nat) : Int) = 11 from rfl] at r2
    rw [show ((25 : Nat) : Int) = 25 from rfl] at r3
    rw [show ((2 : Nat) : Int) = 2 from rfl] at r4
    rw [show ((13 : Nat) : Int) = 13 from rfl] at r5
    rw [show ((22 : Nat) : Int) = 22 from rfl] at r6
    rw [r1, r2, r3, r4, r5, r6]
    simp only [Option.bind_some]
    have n1 : (4294967295 - (e : Int)) % 4294967296 = ((4294967295 - e : Nat) : Int) := by omega
    have x1 := rotr_lt e 6 he
    have x2 := rotr_lt e 11 he
    have x3 := rotr_lt e 25 he
    have y1 := rotr_lt a 2 ha
    have y2 := rotr_lt a 13 ha
    have y3 := rotr_lt a 22 ha
    rw [n1, and_M e f he hf, and_M (4294967295 - e) g (by omega) hg, and_M a b ha hb, and_M a c ha hc, and_M b c hb hc]
    rw [xor_M _ _ x1 x2, xor_M _ _ (xor_lt32 x1 x2) x3, xor_M _ _ y1 y2, xor_M _ _ (xor_lt32 y1 y2) y3, xor_M _ _ (and_lt32 he) (and_lt32 (by omega)), xor_M _ _ (and_lt32 ha) (and_lt32 ha), xor_M _ _ (xor_lt32 (and_lt32 ha) (and_lt32 ha)) (and_lt32 hb)]
    rw [show rotr e 6 ^^^ rotr e 11 ^^^ rotr e 25 = bsg1 e from rfl, show rotr a 2 ^^^ rotr a 13 ^^^ rotr a 22 = bsg0 a from rfl, show (e &&& f) ^^^ (4294967295 - e &&& g) = chN e f g from rfl, show (a &&& b) ^^^ (a &&& c) ^^^ (b &&& c) = majN a b c from rfl]
    have hrnd : rnd [a, b, c, d, e, f, g, h] (gw roundsL t) (gw W t) = [((h + bsg1 e + chN e f g + gw roundsL t + gw W t) % 4294967296 + (bsg0 a + majN a b c) % 4294967296) % 4294967296, a, b, c, (d + (h + bsg1 e + chN e f g + gw roundsL t + gw W t) % 4294967296) % 4294967296, e, f, g] := rfl
    rw [hrnd]
    generalize bsg1 e = p1 at *
    generalize bsg0 a = p2 at *
    generalize chN e f g = p3 at *
    generalize majN a b c = p4 at *
    generalize gw roundsL t = p5 at *
    generalize gw W t = p6 at *
    have hp : ((((((h : Int) + (p1 : Int)) % 4294967296 + (p3 : Int)) % 4294967296 + (p5 : Int)) % 4294967296) + (p6 : Int)) % 4294967296 = (((h + p1 + p3 + p5 + p6) % 4294967296 : Nat) : Int) := by omega
    have hq : ((p2 : Int) + (p4 : Int)) % 4294967296 = (((p2 + p4) % 4294967296 : Nat) : Int) := by omega
    rw [hp, hq]
    generalize (h + p1 + p3 + p5 + p6) % 4294967296 = T at *
    generalize (p2 + p4) % 4294967296 = U at *
    have hs : ([((T : Int) + (U : Int)) % 4294967296] ++ ci [a, b, c, d, e, f, g]).set 4 ((rd ([((T : Int) + (U : Int)) % 4294967296] ++ ci [a, b, c, d, e, f, g]) 4 + (T : Int)) % 4294967296) = ci [(T + U) % 4294967296, a, b, c, (d + T) % 4294967296, e, f, g] := by
      simp [ci, rd]
    rw [show ((4 : Int).toNat) = 4 from rfl, hs]
    repeat rw [if_pos (by first | omega | (simp [ci]; done))]
theorem l1_run (K : Nat) (x0 : List Int) (W : List Nat) (hW : W.length = 64) (x : List Nat) (hx : x.length = 8) (hxw : Words x) (d : Nat) : ∀ t, t + d = 64 → flumeref08_block.l1 (K + d) x0 (ci roundsL) (ci W) (ci (rnds x W t)) (t : Int) = flumeref08_block.l1 K x0 (ci roundsL) (ci W) (ci (rnds x W 64)) 64 := by
  induction d with
  | zero => intro i hi; obtain rfl : i = 64 := by omega
            rfl
  | succ d ih =>
    intro t ht
    rw [← Nat.add_assoc, l1_step _ _ _ _ (rnds_length hx t) (rnds_words hxw t) hW t (by omega)]
    exact ih (t + 1) (by omega)
theorem l2_run (K : Nat) (x y : List Nat) (hx : x.length = 8) (hy : y.length = 8) (d : Nat) : ∀ t, t + d = 8 → flumeref08_block.l2 (K + 1 + d) (ci x) (ci y) (ci (stirTo x y t)) (t : Int) = some (ci (stirTo x y 8)) := by
  induction d with
  | zero => intro i hi; obtain rfl : i = 8 := by omega
            simp only [flumeref08_block.l2]
            rw [if_neg (by omega)]
  | succ d ih =>
    intro t ht
    have e4 : wrap64 ((t : Int) + 1) = ((t + 1 : Nat) : Int) := by rw [← w64_nat (t + 1) (by omega)]; congr 1
    rw [← Nat.add_assoc]
    simp only [flumeref08_block.l2]
    rw [e4, ci_length, ci_length, ci_length, hx, hy, stirTo_length, rd_ci, rd_ci]
    repeat rw [if_pos (by omega)]
    have hs : ci (stirTo x y t) ++ [((gw x t : Int) + (gw y t : Int)) % 4294967296] = ci (stirTo x y (t + 1)) := by
      rw [stirTo, ci_snoc]
      congr 2
    rw [hs]
    exact ih (t + 1) (by omega)
theorem rnds_congr (x W W' : List Nat) (n : Nat) (h : ∀ j, j < n → gw W j = gw W' j) : ∀ k, k ≤ n → rnds x W k = rnds x W' k := by
  intro k
  induction k with
  | zero => intro _; rfl
  | succ k ih => intro hk; rw [rnds, rnds, ih (by omega), h k (by omega)]
theorem l0_end (K : Nat) (x : List Nat) (hx : x.length = 8) (x1 x2 x7 : List Int) : flumeref08_block.l0 (K + 1) (ci x) x1 x2 x7 64 = flumeref08_block.l1 K (ci x) x1 x7 (ci x) 0 := by
  simp only [flumeref08_block.l0]
  rw [if_neg (by omega)]
  simp only [Option.bind_some, List.nil_append, List.length_nil, Nat.zero_add]
  rw [ci_length, hx, if_pos (by omega)]
theorem l1_end (K : Nat) (x0 x1 x7 x11 : List Int) : flumeref08_block.l1 (K + 1) x0 x1 x7 x11 64 = flumeref08_block.l2 K x0 x11 [] 0 := by
  simp only [flumeref08_block.l1]
  rw [if_neg (by omega)]
/-- The printed function on a state, the constants and a block. -/
theorem block_f (x : List Nat) (hx : x.length = 8) (hxw : Words x) (b : List UInt8) (hb : b.length = 64) : flumeref08_block.f 139 (ci x) (ci roundsL) (bi b) = some (ci (stirL x b)) := by
  have h1 := l0_run 75 (ci x) (ci roundsL) b hb 64 0 (by omega)
  rw [show ci (wl b 0) = [] from rfl] at h1
  unfold flumeref08_block.f
  rw [show (139 : Nat) = 75 + 64 from rfl]
  refine Eq.trans h1 ?_
  have h2 := l1_run 10 (ci x) (wl b 64) (wl_length b 64) x hx hxw 64 0 (by omega)
  have h3 := l2_run 0 x (rnds x (wl b 64) 64) hx (rnds_length hx 64) 8 0 (by omega)
  have hW := rnds_congr x _ _ 64 (fun j hj => (wl_spread b j hj).symm) 64 (Nat.le_refl _)
  refine (l0_end 74 x hx (ci roundsL) (bi b) (ci (wl b 64))).trans ?_
  refine Eq.trans h2 ?_
  refine (l1_end 9 (ci x) (ci roundsL) (ci (wl b 64)) _).trans ?_
  refine Eq.trans h3 ?_
  rw [stirL, hW]
end Go.Proofs.YtchbnablefoemaaDoor
