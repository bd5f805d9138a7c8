/- Plain: what flumeref04.Get makes of bytes is what packet.Get makes of them. -/
import Derived.Test.YtobkelpeenckeaaPkJ
import Derived.Test.YtobkelpeenckeaaPkN
namespace Go.Proofs.Ytobkelpeenckeaa
open Go.RowKit
set_option linter.unusedVariables false
set_option linter.unusedSimpArgs false

theorem numL_step (l : List UInt8) (k q b : Nat) (h : numL l k = (q : Int)) (hb : gb l k = b) (hs : 256 * q + b < 9223372036854775808) : numL l (k + 1) = ((256 * q + b : Nat) : Int) := by
  unfold numL
  rw [h, hb, IntWalk.i64_in (256 * (q : Int)) (by omega), IntWalk.i64_in _ (by omega)]
  omega
theorem numL_two (l : List UInt8) : numL l 2 = (nb2 l 0 : Int) := by
  have g0 := gb_lt l 0; have g1 := gb_lt l 1
  have h1 := numL_step l 0 0 _ rfl rfl (by omega)
  have h2 := numL_step l 1 _ _ h1 rfl (by omega)
  rw [h2]; unfold nb2; simp only [Nat.zero_add, Nat.reduceAdd, Nat.reduceMul]; omega
theorem numL_four (l : List UInt8) : numL l 4 = (nb4 l 0 : Int) := by
  have g0 := gb_lt l 0; have g1 := gb_lt l 1; have g2 := gb_lt l 2; have g3 := gb_lt l 3
  have h1 := numL_step l 0 0 _ rfl rfl (by omega)
  have h2 := numL_step l 1 _ _ h1 rfl (by omega)
  have h3 := numL_step l 2 _ _ h2 rfl (by omega)
  have h4 := numL_step l 3 _ _ h3 rfl (by omega)
  rw [h4]; unfold nb4; simp only [Nat.zero_add, Nat.reduceAdd, Nat.reduceMul]; omega
theorem gb_be (n k i m : Nat) (h : i < k) (hm : 256 ^ (k - 1 - i) = m) : gb (be n k) i = n / m % 256 := by
  unfold gb
  rw [be_get n k i h, hm]
  simp
theorem numL_div (l : List UInt8) (n k m m' : Nat) (hm : m' = m * 256) (h : numL l k = ((n / m' : Nat) : Int)) (hb : gb l k = n / m % 256) (hs : n < 9223372036854775808) : numL l (k + 1) = ((n / m : Nat) : Int) := by
  have e : 256 * (n / m') + n / m % 256 = n / m := by rw [hm, ← Nat.div_div_eq_div_mul]; exact Nat.div_add_mod _ _
  have := Nat.div_le_self n m
  rw [numL_step l k _ _ h hb (by omega), e]
theorem numL_be8 (n : Nat) (h : n ≤ 1099511627776) (l : List UInt8) (hl : ∀ i, i < 8 → gb l i = gb (be n 8) i) : numL l 8 = (n : Int) := by
  have hn : n < 9223372036854775808 := by omega
  have h0 : numL l 0 = ((n / 18446744073709551616 : Nat) : Int) := by rw [Nat.div_eq_of_lt (by omega)]; rfl
  have h1 := numL_div l n 0 72057594037927936 _ (by decide) h0 (by rw [hl 0 (by omega)]; exact gb_be n 8 0 _ (by omega) (by decide)) hn
  have h2 := numL_div l n 1 281474976710656 _ (by decide) h1 (by rw [hl 1 (by omega)]; exact gb_be n 8 1 _ (by omega) (by decide)) hn
  have h3 := numL_div l n 2 1099511627776 _ (by decide) h2 (by rw [hl 2 (by omega)]; exact gb_be n 8 2 _ (by omega) (by decide)) hn
  have h4 := numL_div l n 3 4294967296 _ (by decide) h3 (by rw [hl 3 (by omega)]; exact gb_be n 8 3 _ (by omega) (by decide)) hn
  have h5 := numL_div l n 4 16777216 _ (by decide) h4 (by rw [hl 4 (by omega)]; exact gb_be n 8 4 _ (by omega) (by decide)) hn
  have h6 := numL_div l n 5 65536 _ (by decide) h5 (by rw [hl 5 (by omega)]; exact gb_be n 8 5 _ (by omega) (by decide)) hn
  have h7 := numL_div l n 6 256 _ (by decide) h6 (by rw [hl 6 (by omega)]; exact gb_be n 8 6 _ (by omega) (by decide)) hn
  have h8 := numL_div l n 7 1 _ (by decide) h7 (by rw [hl 7 (by omega)]; exact gb_be n 8 7 _ (by omega) (by decide)) hn
  rw [h8, Nat.div_one]
def prR (opt : List UInt8) : Int := if opt.length = 10 ∨ opt.length = 14 then numL ((opt.take 10).drop 2) 8 else 0
def ogR (opt : List UInt8) : Nat := if opt.length = 4 ∨ opt.length = 14 then nb2 opt (opt.length - 2) else 0
/-- The packet that the bytes l say to the reference. -/
def candR (l opt data : List UInt8) : Pk :=
  ⟨gb l 1, gb l 2, nb2 l 4, nb2 l 6, nb4 l 8, nb4 l 12, gb l 3, nb2 l 16, prR opt, (ogR opt : Int), data⟩
theorem prR_optL (pr og : Nat) (h : pr ≤ 1099511627776) : prR (optL pr og) = (pr : Int) := by
  unfold prR
  rw [optL_length]
  by_cases h1 : 0 < pr
  · rw [if_pos h1, if_pos (by split <;> omega)]
    refine numL_be8 pr h _ fun i hi => ?_
    rw [gb_drop, gb_take _ _ _ (by omega)]
    unfold optL prL
    rw [if_pos h1, List.append_assoc]
    exact (gb_right [1, 10] _ i).trans (gb_left _ _ (by rw [be_length]; exact hi))
  · rw [if_neg h1, if_neg (by split <;> omega)]
    omega
theorem ogR_optL (pr og : Nat) (h : og ≤ 65535) : ogR (optL pr og) = og := by
  unfold ogR
  rw [optL_length]
  by_cases h1 : 0 < og
  · rw [if_pos h1, if_pos (by split <;> omega)]
    unfold optL prL ogL nb2
    rw [if_pos h1]
    by_cases h2 : 0 < pr
    · simp [h2, be, gb]; omega
    · simp [h2, be, gb]; omega
  · rw [if_neg h1, if_neg (by split <;> omega)]
    omega
theorem candR_put (p : Pk) (hs : p.seq < 4294967296) (ha : p.ack < 4294967296) (hok : okP p = true) (L : List UInt8) (hLp : putP p = L) :
    candR L (List.drop 22 (List.take (22 + gb L 20) L)) (List.drop (22 + gb L 20) L) = p := by
  obtain ⟨src, dst, sp, dp, seq, ack, fl, wn, pr, og, data⟩ := p
  have hok' := hok
  unfold okP okN at hok
  simp only [Bool.and_eq_true, decide_eq_true_eq] at hok
  obtain ⟨h1, h2, h3, h4, h5, h6, h7, h8, h9, h10⟩ := hok
  obtain ⟨s, rfl⟩ := Int.eq_ofNat_of_zero_le (show 0 ≤ src by omega)
  obtain ⟨d, rfl⟩ := Int.eq_ofNat_of_zero_le (show 0 ≤ dst by omega)
  obtain ⟨sp, rfl⟩ := Int.eq_ofNat_of_zero_le (show 0 ≤ sp by omega)
  obtain ⟨dp, rfl⟩ := Int.eq_ofNat_of_zero_le (show 0 ≤ dp by omega)
  obtain ⟨fl, rfl⟩ := Int.eq_ofNat_of_zero_le (show 0 ≤ fl by omega)
  obtain ⟨wn, rfl⟩ := Int.eq_ofNat_of_zero_le (show 0 ≤ wn by omega)
  obtain ⟨pr, rfl⟩ := Int.eq_ofNat_of_zero_le (show 0 ≤ pr by omega)
  obtain ⟨og, rfl⟩ := Int.eq_ofNat_of_zero_le (show 0 ≤ og by omega)
  dsimp only at hs ha h10
  have hput : putP ⟨(s : Int), d, sp, dp, seq, ack, fl, wn, pr, og, data⟩ = putL s d sp dp seq ack fl wn pr og data := by simp [putP]
  obtain ⟨a, hal, hp, g1, g2, g3, g4, g6, g8, g12, g16, g20⟩ := putL_parts s d sp dp seq ack fl wn pr og data
  rw [hput] at hLp
  rw [hLp] at hp
  have hlen : L.length = 22 + ((optL pr og).length + data.length) := by rw [hp, List.length_append, List.length_append, hal]
  have left : ∀ i, i < 22 → gb L i = gb a i := fun i hi => by rw [hp]; exact gb_left _ _ (by omega)
  have n2 : ∀ i, i + 1 < 22 → nb2 L i = nb2 a i := fun i hi => by unfold nb2; rw [left _ (by omega), left _ (by omega)]
  have n4 : ∀ i, i + 3 < 22 → nb4 L i = nb4 a i := fun i hi => by unfold nb4; rw [left _ (by omega), left _ (by omega), left _ (by omega), left _ (by omega)]
  have e20 : gb L 20 = (optL pr og).length := by rw [left _ (by omega), g20]
  rw [e20]
  have hopt : List.drop 22 (List.take (22 + (optL pr og).length) L) = optL pr og := by
    rw [hp, ← hal, List.take_length_add_append, List.drop_left, List.take_left]
  have hdat : List.drop (22 + (optL pr og).length) L = data := by
    rw [hp, ← hal, List.drop_length_add_append, List.drop_left]
  rw [hopt, hdat]
  unfold candR
  rw [left 1 (by omega), left 2 (by omega), left 3 (by omega), n2 4 (by omega), n2 6 (by omega), n4 8 (by omega), n4 12 (by omega), n2 16 (by omega), g1, g2, g3, g4, g6, g8, g12, g16, prR_optL pr og (by omega), ogR_optL pr og (by omega)]
  have k1 : s % 256 = s := by omega
  have k2 : d % 256 = d := by omega
  have k3 : fl % 256 = fl := by omega
  have k4 : sp % 65536 = sp := by omega
  have k5 : dp % 65536 = dp := by omega
  have k6 : seq % 4294967296 = seq := by omega
  have k7 : ack % 4294967296 = ack := by omega
  have k8 : wn % 65536 = wn := by omega
  rw [k1, k2, k3, k4, k5, k6, k7, k8]
theorem getP_mainR {l : List UInt8} {x : Nat} (hx : gb l 20 = x) (h22 : 22 ≤ l.length) (h20 : 22 + x ≤ l.length) (hv : inetN [l] = 65535 ∨ inetN [l] = 0) (opt data : List UInt8) (P : Pk) (ho : List.drop 22 (List.take (22 + x) l) = opt) (hd : List.drop (22 + x) l = data) (hP : candR l opt data = P) :
    (128 < data.length → getP l = (Pk.zero, 4)) ∧ (okN P data.length = true → putP P = l → getP l = (P, 0)) ∧ (data.length ≤ 128 → ¬ (okN P data.length = true ∧ putP P = l) → getP l = (Pk.zero, 20)) := by
  obtain ⟨m1, m2, m3⟩ := getP_main hx h22 h20 hv opt data _ ho hd rfl
  have hseq : P.seq < 4294967296 := by rw [← hP]; exact nb4_lt l 8
  have hack : P.ack < 4294967296 := by rw [← hP]; exact nb4_lt l 12
  have hdata : P.data = data := by rw [← hP]; rfl
  refine ⟨m1, fun h1 h2 => ?_, fun h1 h2 => ?_⟩
  · rw [← h2]
    exact getP_put P hseq hack (by unfold okP; rw [hdata]; exact h1)
  · refine m3 h1 fun h3 => h2 ?_
    have e := candR_put (cand l opt data) (nb4_lt l 8) (nb4_lt l 12) h3.1 l h3.2
    rw [hx, ho, hd, hP] at e
    rw [e]
    exact h3
end Go.Proofs.Ytobkelpeenckeaa
