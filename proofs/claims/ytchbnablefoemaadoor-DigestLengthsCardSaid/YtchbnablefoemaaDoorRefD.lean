/- flumeref08: block's contract, Sum: the walks. flumeref08.Sum: the walk. flumeref08: Of, Quick: the walks. -/
import Derived.Test.YtchbnablefoemaaDoorRefBlk
import Derived.Test.YtchbnablefoemaaDoorRefA
import Derived.Test.YtchbnablefoemaaDoorHashC
import Derived.Test.YtchbnablefoemaaDoorRowKit
namespace Go.Proofs.YtchbnablefoemaaDoor
open Go.RowKit Go.Proofs.YtchbnablefoemaaDoorW.PrintWords Go.Proofs.YtchbnablefoemaaDoorW.PrintLast Go.Proofs.YtchbnablefoemaaDoorW.PrintMore PDigestSums
set_option linter.unusedVariables false

theorem add_at (b o i : Nat) : (⟨b, o, none⟩ : Addr).add i = ⟨b, o + i, none⟩ := by unfold Addr.add; split <;> simp_all
theorem RN.kd {k : IntKind} {w : World} {A : Option Addr} {l : List Nat} {n : Nat} (h : RN k w A l) (hn : l.length = n) (hm : n ≤ 9223372036854775807) : Kd.C (Kd.int k) w A n (ci l) := by
  refine ⟨by rw [ci_length, hn], hm, fun h0 => ?_⟩
  obtain ⟨b, o, rfl, _⟩ := h 0 (by omega)
  refine ⟨_, rfl, fun j p hp => ⟨[.int k p], rfl, rfl, fun i u hu => ?_⟩⟩
  have hj : j < l.length := by have := (List.getElem?_eq_some_iff.1 hp).1; rwa [ci_length] at this
  have hi := (List.getElem?_eq_some_iff.1 hu).1
  obtain rfl : i = 0 := by simpa using hi
  obtain rfl : Value.int k p = u := by simpa using hu
  obtain ⟨b', o', e, hc⟩ := h j hj
  cases e
  rw [show (Kd.int k).sz = 1 from rfl, add_at, Nat.mul_one, Nat.add_zero, hc]
  unfold ci at hp
  rw [List.getElem?_map, List.getElem?_eq_getElem hj] at hp
  simp only [Option.map_some, Option.some.injEq] at hp
  unfold gw
  rw [List.getD_eq_getElem?_getD, List.getElem?_eq_getElem hj, ← hp]; rfl
theorem RB.kd {w : World} {A : Option Addr} {l : List UInt8} {n : Nat} (h : RB w A l) (hn : l.length = n) (hm : n ≤ 9223372036854775807) : Kd.C (Kd.int .u8) w A n (bi l) := by
  refine ⟨by rw [bi_length, hn], hm, fun h0 => ?_⟩
  obtain ⟨b, o, rfl, _⟩ := h 0 (by omega)
  refine ⟨_, rfl, fun j p hp => ⟨[.int .u8 p], rfl, rfl, fun i u hu => ?_⟩⟩
  have hj : j < l.length := by have := (List.getElem?_eq_some_iff.1 hp).1; rwa [bi_length] at this
  have hi := (List.getElem?_eq_some_iff.1 hu).1
  obtain rfl : i = 0 := by simpa using hi
  obtain rfl : Value.int .u8 p = u := by simpa using hu
  obtain ⟨b', o', e, hc⟩ := h j hj
  cases e
  rw [show (Kd.int IntKind.u8).sz = 1 from rfl, add_at, Nat.mul_one, Nat.add_zero, hc]
  unfold bi at hp
  rw [List.getElem?_map, List.getElem?_eq_getElem hj] at hp
  simp only [Option.map_some, Option.some.injEq] at hp
  unfold gb
  rw [List.getD_eq_getElem?_getD, List.getElem?_eq_getElem hj, ← hp]; rfl
theorem RN.of_kd {k : IntKind} {w : World} {A : Option Addr} {l : List Nat} {n : Nat} (h : Kd.C (Kd.int k) w A n (ci l)) : RN k w A l := fun i hi => by
  obtain ⟨h1, _, h3⟩ := h
  rw [ci_length] at h1
  obtain ⟨ad, e, hc⟩ := h3 (by omega)
  have hp : (ci l)[i]? = some ((gw l i : Nat) : Int) := by
    unfold ci gw
    rw [List.getElem?_map, List.getD_eq_getElem?_getD, List.getElem?_eq_getElem hi]; rfl
  obtain ⟨c, _, hcc, hcell⟩ := hc i _ hp
  have hcc' : c = [Value.int k ((gw l i : Nat) : Int)] := hcc
  subst hcc'
  have h0 := hcell 0 (.int k ((gw l i : Nat) : Int)) rfl
  have hp0 : (ci l)[0]? = some ((gw l 0 : Nat) : Int) := by
    unfold ci gw
    rw [List.getElem?_map, List.getD_eq_getElem?_getD, List.getElem?_eq_getElem (by omega)]; rfl
  obtain ⟨c', _, hcc', hcell'⟩ := hc 0 _ hp0
  have hcc'' : c' = [Value.int k ((gw l 0 : Nat) : Int)] := hcc'
  subst hcc''
  have h00 := hcell' 0 (.int k ((gw l 0 : Nat) : Int)) rfl
  rw [show (Kd.int k).sz = 1 from rfl] at h0 h00
  obtain ⟨b, o, rfl⟩ := addr_plain h00
  rw [add_at, Nat.mul_one, Nat.add_zero] at h0
  exact ⟨b, o, e, h0⟩

theorem rblock_calls (A0 A1 A2 : Option Addr) (c0 c1 c2 : Nat) (x : List Nat) (b : List UInt8) (hx : x.length = 8) (hxw : Words x) (hb : b.length = 64) (w : World) (h0 : RN .u32 w A0 x) (h1 : RN .u32 w A1 roundsL) (h2 : RB w A2 b) (hc0 : 8 ≤ c0) (hc1 : 64 ≤ c1) (hc2 : 64 ≤ c2) :
    Calls Tryd.prog 25 #[.slice A0 8 c0, .slice A1 64 c1, .slice A2 64 c2] w fun e w' => ∃ A' c', e = .returned (.slice A' 8 c') ∧ 8 ≤ c' ∧ RN .u32 w' A' (stirL x b) ∧ Below w.heap.size w w' := by
  have hl0 : (ci x).length = 8 := by rw [ci_length, hx]
  have hl1 : (ci roundsL).length = 64 := by rw [ci_length]; rfl
  have hl2 : (bi b).length = 64 := by rw [bi_length, hb]
  have hf := block_f x hx hxw b hb
  obtain ⟨K, hK⟩ : ∃ K : Nat, 139 = K := ⟨_, rfl⟩
  rw [hK] at hf
  have := flumeref08_block.calls K A0 c0 (ci x) A1 c1 (ci roundsL) A2 c2 (bi b) (ci (stirL x b)) w (by rw [hl0]; exact h0.kd hx (by omega)) (by rw [hl0]; exact hc0) (by rw [hl1]; exact h1.kd rfl (by omega)) (by rw [hl1]; exact hc1) (by rw [hl2]; exact h2.kd hb (by omega)) (by rw [hl2]; exact hc2) hf
  rw [hl0, hl1, hl2] at this
  refine this.mono ?_
  rintro e w' ⟨v, rfl, hR, hB⟩
  obtain ⟨A', c', hv, hc, hC⟩ := Kd.R_reads hR
  rw [ci_length, stirL_length] at hv hc hC
  exact ⟨A', c', by rw [hv], hc, RN.of_kd hC, hB⟩
end Go.Proofs.YtchbnablefoemaaDoor
namespace Go.Proofs.YtchbnablefoemaaDoor
open Go.RowKit
set_option linter.unusedVariables false

theorem endL_whole (l : List UInt8) : sumX firstL l l.length = sumL l := by
  obtain ⟨q, hq⟩ : ∃ q, l.length / 64 = q := ⟨_, rfl⟩
  have hE : endL l l.length = l.take (64 * q) ++ endL (restL l) l.length := by
    unfold endL padL
    have hz : zerosN (restL l).length = zerosN l.length := by unfold zerosN; rw [restL_length]; omega
    have hl : l = l.take (64 * q) ++ restL l := by unfold restL; rw [hq, List.take_append_drop]
    rw [hz]
    conv => lhs; rw [show l ++ [128] = l.take (64 * q) ++ (restL l ++ [128]) by rw [← List.append_assoc, ← hl]]
    simp
  have hlt : (l.take (64 * q)).length = 64 * q := by rw [List.length_take]; omega
  have hlen : (endL l l.length).length / 64 = q + (endL (restL l) l.length).length / 64 := by
    rw [hE, List.length_append, hlt]; omega
  have h1 : hashTo firstL (endL l l.length) q = hashL l := by
    have e2 : hashTo firstL l q = hashTo firstL (l.take (64 * q)) q := by
      have := hashTo_append firstL (l.take (64 * q)) (restL l) q (by omega)
      rw [← this]
      congr 1
      unfold restL; rw [hq, List.take_append_drop]
    rw [hE, hashTo_append firstL _ _ q (by omega), ← e2]
    unfold hashL; rw [hq]
  have h2 : (endL l l.length).drop (64 * q) = endL (restL l) l.length := by
    rw [hE, List.drop_left' hlt]
  unfold sumL sumX
  rw [hlen, hashTo_add, h1, h2]

theorem RN.below {k : IntKind} {w w' : World} {A : Option Addr} {l : List Nat} {g : Nat} (h : RN k w A l) (e : w.grownBy w' (some g)) (ho : 0 < l.length → Off g A) : RN k w' A l := fun i hi => by
  obtain ⟨b, o, rfl, hc⟩ := h i hi
  exact ⟨b, o, rfl, (World.cell?_of_block (e.block b (World.block_lt_of_cell? w _ hc) (fun kk => ho (by omega) b o rfl (by cases kk; rfl)))).trans hc⟩
theorem info0 : (Tryd.prog.info? 33).map (·.size) = some (List.replicate 32 (Value.int .u8 0)).toArray.size := by kernel_rfl
theorem hashTo_succ (x : List Nat) (T : List UInt8) (j : Nat) : hashTo x T (j + 1) = stirL (hashTo x T j) ((T.drop (64 * j)).take 64) := by rw [hashTo]
set_option maxRecDepth 100000 in
set_option maxHeartbeats 4000000 in
theorem rsum_calls (x0 : List Nat) (hx0 : x0.length = 8) (hw0 : Words x0) (A0 A1 A2 : Option Addr) (c0 c1 c2 n : Nat) (l : List UInt8) (hn : l.length = n) (w : World) (h0 : RN .u32 w A0 x0) (h1 : RN .u32 w A1 roundsL) (h2 : RB w A2 l) (hc0 : 8 ≤ c0) (hc1 : 64 ≤ c1) (hl : n ≤ 100000) :
    Calls Tryd.prog 20 #[.slice A0 8 c0, .slice A1 64 c1, .slice A2 n c2] w fun e w' => e = .returned (.agg ((sumX x0 l n).map vb).toArray) ∧ Below w.heap.size w w' := by
  have HX0 := Lib.hid hx0
  have HW0 := Lib.hid hw0
  have H0 := Lib.hid h0
  have H1 := Lib.hid h1
  have H2 := Lib.hid h2
  have HN := Lib.hid hn
  clear h0 h1 h2 hn hx0 hw0
  go_enter Tryd.func20, Tryd.ntmps20
  go_upto_region 1 with fail
  have HZ := Lib.hid (BK.new w 33 (List.replicate 32 (.int .u8 0)))
  have HB := Lib.hid (ext_alloc w (.cells (List.replicate 32 (Value.int .u8 0)).toArray 33))
  have hsw : w.heap.size < (w.alloc (.cells (List.replicate 32 (Value.int .u8 0)).toArray 33)).heap.size := by simp
  obtain ⟨gz, hgz⟩ : ∃ x, w.heap.size = x := ⟨_, rfl⟩
  rw [hgz] at HZ HB hsw ⊢
  have HGZ := Lib.hid hgz
  refine name_world (fun w1 => BK w1 gz 33 (List.replicate 32 (.int .u8 0)) ∧ Below gz w w1 ∧ gz < w1.heap.size) ⟨HZ.out, HB.out, hsw⟩ ?_
  clear HZ HB hsw
  rintro w1 ⟨hz, hb, hsz⟩
  have HZ := Lib.hid hz
  have HB := Lib.hid hb
  have hb' := hb
  rw [← hgz] at hb'
  have HH0 := Lib.hid (H0.out.ext hb')
  have HH1 := Lib.hid (H1.out.ext hb')
  have HH2 := Lib.hid (H2.out.ext hb')
  obtain ⟨B, hB⟩ : ∃ B, w1.heap.size = B := ⟨_, rfl⟩
  rw [hB] at hsz
  have HBe := Lib.hid hB
  clear hz hb hb' hgz hB
  go_wp2_with ((with_reducible refine (?_ : wpList _ _ _ (_ :: _) _ _)); at_builtin; refine wpList_appB rfl _ _ 22 rfl B 5 Tryd.underlying22 infoB _ [] rfl (OwnB.lit' _ _ w1 [] w1.heap.size 0 (by rw [HBe.out]; exact Nat.le_refl _) (by simp) rfl rfl) _ _ _ l rfl HN.out (HH2.out.ext (ext_alloc _ _)) (by rw [HN.out]; simp; omega) (by simp [HBe.out]) ?_)
  intro v3 w3 ho hg3 _
  have hb := (OwnB.lit' B 5 w1 [] w1.heap.size 0 (by rw [HBe.out]; exact Nat.le_refl _) (by simp) rfl rfl).below (by rw [← HBe.out]; exact ext_alloc w1 _) hg3 (by simp [HBe.out])
  have hszB := hb.size
  rw [HBe.out] at hszB
  obtain ⟨A3, c3, hv3, _, _, _⟩ := ho.form
  rw [HN.out] at hv3
  subst hv3
  have HO := Lib.hid ho
  have HX := Lib.hid hb
  clear ho hb hg3
  go_wp2_with ((with_reducible refine (?_ : wpList _ _ _ (_ :: _) _ _)); at_builtin; refine wpList_appB rfl _ _ 22 rfl B 5 Tryd.underlying22 infoB _ l rfl (HO.out.ext (ext_alloc _ _)) _ _ _ [128] rfl rfl (RB.lit1 _ _ _ 128 rfl) (by rw [HN.out]; simp; omega) (by simp; omega) ?_)
  intro v4 w4 ho hg4 _
  have hb := (HO.out.ext (ext_alloc _ _)).below (HX.out.alloc hszB _) hg4 (by simp; omega)
  have hsz4 := hb.size
  rw [HBe.out] at hsz4
  have HO4 : Hid (OwnB B 5 w4 v4 (padL l 0)) := Lib.hid (by simpa [padL] using ho)
  have HX4 := Lib.hid hb
  clear ho hb hg4 HO HX hszB
  go_wp2_with fail
  go_loopw [2] (fun v W => ∃ k : Nat, k ≤ zerosN n ∧ Hid (OwnB B 5 W v (padL l k)) ∧ Hid (Below B w1 W) ∧ B ≤ W.heap.size) (fun v _ => 200000 - lenV v)
  case atStart => exact ⟨0, Nat.zero_le _, HO4, HX4, hsz4⟩
  case round =>
    clear HO4 HX4 hsz4
    obtain ⟨k, hk, HO, HX, hszr⟩ := hrel
    obtain ⟨A, c, rfl, hr4, hc, _⟩ := HO.out.form
    obtain ⟨m, hm⟩ : ∃ m, (padL l k).length = m := ⟨_, rfl⟩
    have hm2 : m = n + 1 + k := by rw [← hm, padL_length, HN.out]
    rw [hm] at hc ⊢
    have HM := Lib.hid hm
    have HM2 := Lib.hid hm2
    have hzn : zerosN n = (119 - n % 64) % 64 := rfl
    rw [hm] at HO
    by_cases hz : k < zerosN n
    · have hbe : ((m : Int).tmod 64 != 56) = true := by rw [bne_iff_ne, show (64 : Int) = ((64 : Nat) : Int) from rfl, tmod_nat]; omega
      have hbe2 : ((m : Int) % 64 != 56) = true := by rw [bne_iff_ne]; omega
      have hm3 : m ≤ 100200 := by omega
      clear hm hm2 hzn hr4
      go_wp2_with ((with_reducible refine (?_ : wpList _ _ _ (_ :: _) _ _)); at_builtin; refine wpList_appB rfl _ _ 22 rfl B 5 Tryd.underlying22 infoB _ (padL l k) rfl (HO.out.ext (ext_alloc _ _)) _ _ _ [0] rfl rfl (RB.lit1 _ _ _ 0 rfl) (by simp [HM.out]; omega) (by simp; omega) ?_)
      intro v5 w5 ho hg5 _
      have hb := (HO.out.ext (ext_alloc _ _)).below (HX.out.alloc hszr _) hg5 (by simp; omega)
      have hsz5 := hb.size
      rw [HBe.out] at hsz5
      rw [padL_snoc] at ho
      obtain ⟨A5, c5, rfl, _, _, _⟩ := ho.form
      have hl5 : m < (padL l (k + 1)).length := by rw [padL_length, HN.out]; have := HM2.out; omega
      have HO5 := Lib.hid ho
      have HX5 := Lib.hid hb
      clear ho hb hg5
      go_wp2
      exact ⟨⟨k + 1, by omega, HO5, HX5, hsz5⟩, by rw [lenV_slice, lenV_slice]; omega⟩
    · have hbe : ((m : Int).tmod 64 != 56) = false := by rw [bne_eq_false_iff_eq, show (64 : Int) = ((64 : Nat) : Int) from rfl, tmod_nat]; omega
      have hbe2 : ((m : Int) % 64 != 56) = false := by rw [bne_eq_false_iff_eq]; omega
      obtain rfl : k = zerosN n := by omega
      obtain ⟨P, hP⟩ : ∃ P, padL l (zerosN n) = P := ⟨_, rfl⟩
      have hPl : P.length = m := by rw [← hP]; exact hm
      have hm56 : m % 64 = 56 := by omega
      have hm3 : m ≤ 100200 := by omega
      rw [hP] at HO
      have HP := Lib.hid hP
      have HPl := Lib.hid hPl
      have HM56 := Lib.hid hm56
      clear hm hm2 hzn hr4 hP hPl hz hk hm56 HM HM2
      go_wp2_with fail
      go_loopw [2, 8] (fun v i W => ∃ k : Nat, k ≤ 8 ∧ i = .int .i64 (7 - (k : Int)) ∧ Hid (OwnB B 5 W v (P ++ lenB n k)) ∧ Hid (Below B w1 W) ∧ B ≤ W.heap.size) (fun _ i _ => (intOf i + 1).toNat)
      case atStart => exact ⟨0, Nat.zero_le _, rfl, by simpa [lenB] using HO, HX, hszr⟩
      case round =>
        clear hszr HX HO hbe hbe2 hc
        obtain ⟨k, hk, rfl, HO, HX, hszr⟩ := hrel
        by_cases h8 : k < 8
        · obtain ⟨t, ht⟩ : ∃ t, 56 - 8 * k = t := ⟨_, rfl⟩
          obtain ⟨i7, hi7⟩ : ∃ i, 7 - k = i := ⟨_, rfl⟩
          have e0 : (7 : Int) - (k : Int) = (i7 : Int) := by omega
          have e1 : (8 : Int) * (i7 : Int) = (t : Int) := by omega
          have ht0 : (0 : Int) ≤ t := by omega
          have ht1 : (t : Int) ≤ 56 := by omega
          have hi0 : (0 : Int) ≤ i7 := by omega
          obtain ⟨y, hy⟩ : ∃ y, n * 8 / 2 ^ t = y := ⟨_, rfl⟩
          have e2 : 8 * (n : Int) / 2 ^ t = (y : Int) := by rw [← hy, Nat.mul_comm n 8]; simp
          have HS : Hid (∀ _ : Unit, lenB n k ++ [UInt8.ofNat y] = lenB n (k + 1)) := Lib.hid fun _ => by rw [← lenB_snoc, ht, hy]
          have HLk : Hid ((P ++ lenB n k).length = m + k) := Lib.hid (by rw [List.length_append, HPl.out, lenB_length])
          obtain ⟨A, c, rfl, _, hc, _⟩ := HO.out.form
          rw [HLk.out] at HO hc ⊢
          have HI : Hid ((i7 : Int) - 1 = 7 - ((k + 1 : Nat) : Int)) := Lib.hid (by omega)
          rw [e0]
          clear ht hy hi7 e0
          go_wp2_with ((with_reducible refine (?_ : wpList _ _ _ (_ :: _) _ _)); at_builtin; refine wpList_appB rfl _ _ 22 rfl B 5 Tryd.underlying22 infoB _ (P ++ lenB n k) rfl (HO.out.ext (ext_alloc _ _)) _ _ _ [UInt8.ofNat y] rfl rfl (RB.lit1 _ _ _ (UInt8.ofNat y) (by simp)) (by rw [HLk.out]; simp; omega) (by simp; omega) ?_)
          intro v5 w5 ho hg5 _
          have hb := (HO.out.ext (ext_alloc _ _)).below (HX.out.alloc hszr _) hg5 (by simp; omega)
          have hsz5 := hb.size
          rw [HBe.out] at hsz5
          rw [HS.out ()] at ho
          have HO5 := Lib.hid ho
          have HX5 := Lib.hid hb
          clear ho hb hg5 e2
          go_wp2
          exact ⟨⟨k + 1, by omega, by rw [← HI.out], HO5, HX5, hsz5⟩, by simp [intOf]⟩
        · obtain rfl : k = 8 := by omega
          obtain ⟨E, hE⟩ : ∃ E, P ++ lenB n 8 = E := ⟨_, rfl⟩
          have hEl : E.length = m + 8 := by rw [← hE, List.length_append, HPl.out, lenB_length]
          rw [hE] at HO
          have HE : Hid (∀ _ : Unit, endL l n = E) := Lib.hid fun _ => by unfold endL; rw [HN.out, HP.out, hE]
          obtain ⟨A, c, rfl, hr6, hc6, hcm6⟩ := HO.out.form
          obtain ⟨g7, cc, e7, hg7, hg7', _⟩ := HO.out.block (by omega)
          injection e7 with ea eb ec
          subst ea ec
          rw [hEl] at hc6 ⊢
          have HEl := Lib.hid hEl
          have HR6 := Lib.hid hr6
          have hcm7 : c ≤ 9223372036854775807 := by simp only [maxLen] at hcm6; omega
          have HA0 := Lib.hid (HH0.out.ext (by rw [HBe.out]; exact HX.out))
          have HA1 := Lib.hid (HH1.out.ext (by rw [HBe.out]; exact HX.out))
          have HZr := Lib.hid (HZ.out.ext (by rw [HBe.out]; exact HX.out))
          have HBr : Hid (Below gz w wr) := Lib.hid (HB.out.trans (HX.out.mono (by omega)))
          rw [show (7 : Int) - ((8 : Nat) : Int) = -1 by omega]
          clear hE hEl hr6 eb h8 hk HO hcm6
          go_wp2_with ((with_reducible refine (?_ : wpList _ _ _ (_ :: _) _ _)); at_builtin; refine wpList_appN rfl _ _ 50 rfl wr.heap.size 25 Tryd.underlying50 4 (by decide) infoW _ [] rfl (OwnN.lit .u32 _ _ wr [] (Nat.le_refl _) (by simp)) _ _ _ x0 rfl HX0.out (HA0.out.ext (ext_alloc _ _)) (by rw [HX0.out]; simp) (by simp) ?_)
          intro v8 w8 ho8 hg8 _
          have hb8 := (OwnN.lit .u32 wr.heap.size 25 wr [] (Nat.le_refl _) (by simp)).below (ext_alloc wr _) hg8 (by simp)
          obtain ⟨A8, c8, hv8, hr8, hc8, _⟩ := ho8.form
          rw [HX0.out] at hv8 hc8
          subst hv8
          have HR8 : Hid (RN .u32 w8 A8 (hashTo x0 E 0)) := Lib.hid hr8
          have HB8 := Lib.hid hb8
          have HE8 := Lib.hid (HR6.out.ext hb8)
          have HA8 := Lib.hid (HA1.out.ext hb8)
          have HZ8 := Lib.hid (HZr.out.ext hb8)
          have hszg : gz < wr.heap.size := by omega
          have HG8 : Hid (Below gz w w8) := Lib.hid (HBr.out.trans (hb8.mono (by omega)))
          clear ho8 hg8 hb8 hr8 HR6 HA0 HA1 HZr HBr
          go_wp2_with fail
          go_loopw [9, 10] (fun v a W => ∃ (j c9 : Nat) (A9 : Option Addr), v = .slice A9 8 c9 ∧ 8 ≤ c9 ∧ a = .int .i64 (64 * (j : Int)) ∧ 64 * j ≤ m + 8 ∧ Hid (RN .u32 W A9 (hashTo x0 E j)) ∧ Hid (Below w8.heap.size w8 W)) (fun _ a _ => m + 8 - (intOf a).toNat)
          case atStart => exact ⟨0, c8, A8, rfl, hc8, rfl, by omega, HR8, Lib.hid (Below.refl _ _)⟩
          case round =>
            clear hc8
            obtain ⟨j, c9, A9, rfl, hc9, rfl, hj, HR9, HX9⟩ := hrel
            have h64 : (m + 8) % 64 = 0 := by have := HM56.out; omega
            by_cases hjm : 64 * j < m + 8
            · have hj64 : 64 * j + 64 ≤ m + 8 := by omega
              have hdr := (HE8.out.ext HX9.out).drop (64 * j)
              rw [Nat.zero_add] at hdr
              have HT := Lib.hid (hdr.take 64)
              have HTL : Hid (((E.drop (64 * j)).take 64).length = 64) := Lib.hid (by rw [List.length_take, List.length_drop, HEl.out]; omega)
              have HK := Lib.hid (HA8.out.ext HX9.out)
              obtain ⟨p, hp⟩ : ∃ p, 64 * j = p := ⟨_, rfl⟩
              have ep : (64 : Int) * (j : Int) = (p : Int) := by omega
              rw [ep]
              have hpm : p + 64 ≤ m + 8 := by omega
              have hpc : p + 64 ≤ c := by omega
              rw [hp] at HT HTL
              have HP2 := Lib.hid hp
              clear h64 hj64 hjm hj hp ep hdr
              go_wp2_with fail
              refine (rblock_calls A9 A1 (some ⟨g7, p, none⟩) c9 c1 (c - p) (hashTo x0 E j) ((E.drop p).take 64) (hashTo_length E HX0.out j) (hashTo_words E HW0.out j) HTL.out wr HR9.out HK.out HT.out hc9 hc1 (by omega)).mono ?_
              rintro e we ⟨Ae, ce, rfl, hce, hre, hbe⟩
              have hst : stirL (hashTo x0 E j) ((E.drop p).take 64) = hashTo x0 E (j + 1) := by rw [← HP2.out, hashTo_succ]
              rw [hst] at hre
              have HRe := Lib.hid hre
              have HXe := Lib.hid (ext_trans HX9.out hbe)
              clear hre hbe hst HR9 HX9 HT HK
              go_wp2
              exact ⟨⟨j + 1, ce, Ae, rfl, hce, by have := HP2.out; go_num, by have := HP2.out; omega, HRe, HXe⟩, by have := HP2.out; simp [intOf]; omega⟩
            · have hjE : E.length / 64 = j := by rw [HEl.out]; omega
              obtain ⟨X, hX⟩ : ∃ X, hashTo x0 E j = X := ⟨_, rfl⟩
              have hXl : X.length = 8 := by rw [← hX]; exact hashTo_length E HX0.out j
              have hXw := hashTo_words E HW0.out j
              rw [hX] at hXw HR9
              have HXE : Hid (∀ _ : Unit, sumX x0 l n = outL X 32) := Lib.hid fun _ => by unfold sumX; rw [HE.out (), hjE, hX]
              have HXw := Lib.hid hXw
              have HXl := Lib.hid hXl
              have HZ9 := Lib.hid (HZ8.out.ext HX9.out)
              have HG9 : Hid (Below gz w wr) := Lib.hid (HG8.out.trans (HX9.out.mono (by have := HZ8.out.lt; omega)))
              clear hjE hX hXw hXl HX9 HZ8 HG8 HE8 HA8
              go_wp2_with ((with_reducible refine (?_ : wpList _ _ _ [_] _ _)); refine wpList_store_bk rfl 33 _ _ rfl wr.heap.size (List.replicate 32 (.int .u8 0)) rfl rfl 33 _ (heap_new wr _ rfl) info0 (by simp) (by simp [Value.oneCell']) ?_)
              intro w9 hk9 hg9 _
              have hb9 := below_grown (ext_alloc wr _) hg9 (by simp) (Nat.le_refl _)
              have HRX := Lib.hid (HR9.out.ext hb9)
              have HZX := Lib.hid (HZ9.out.ext hb9)
              have hgzr := HZ9.out.lt
              have HGX : Hid (Below gz w w9) := Lib.hid (HG9.out.trans (hb9.mono (by omega)))
              obtain ⟨gs, hgs⟩ : ∃ gs, wr.heap.size = gs := ⟨_, rfl⟩
              rw [hgs] at hk9 hgzr ⊢
              have HK9 : Hid (BK w9 gs 33 ((outL X (4 * 0)).map vb ++ List.replicate (32 - 4 * 0) (Value.int .u8 0))) := Lib.hid (by simpa [outL] using hk9)
              have hs9 := hk9.lt
              have HOFF : Hid (0 < X.length → Off gs A9) := Lib.hid fun h0 b o e => by
                obtain ⟨b', o', e', hc⟩ := HR9.out 0 h0
                have hlt := World.block_lt_of_cell? wr _ hc
                rw [e'] at e
                cases e
                simp only at hlt
                omega
              clear hk9 hg9 hb9 hgs HR9 HZ9 HG9
              go_wp2_with fail
              go_loopw [61] (fun i W => ∃ k : Nat, k ≤ 8 ∧ i = .int .i64 k ∧ Hid (BK W gs 33 ((outL X (4 * k)).map vb ++ List.replicate (32 - 4 * k) (Value.int .u8 0))) ∧ Hid (w9.grownBy W (some gs))) (fun i _ => 8 - (intOf i).toNat)
              case atStart => exact ⟨0, Nat.zero_le _, rfl, HK9, Lib.hid (grown_refl _ _)⟩
              case round =>
                clear HK9
                obtain ⟨k, hk, rfl, HK, HGR⟩ := hrel
                by_cases hk8 : k < 8
                · go_wp2_with fail
                  go_loopw [64] (fun i W => ∃ q : Nat, q ≤ 4 ∧ i = .int .i64 q ∧ Hid (BK W gs 33 ((outL X (4 * k + q)).map vb ++ List.replicate (32 - (4 * k + q)) (Value.int .u8 0))) ∧ Hid (w9.grownBy W (some gs))) (fun i _ => 4 - (intOf i).toNat)
                  case atStart => exact ⟨0, Nat.zero_le _, rfl, HK, HGR⟩
                  case round =>
                    clear HK HGR
                    obtain ⟨q, hq, rfl, HK, HGR⟩ := hrel
                    by_cases hq4 : q < 4
                    · obtain ⟨p, hp⟩ : ∃ p, 4 * k + q = p := ⟨_, rfl⟩
                      obtain ⟨t, ht⟩ : ∃ t, 24 - 8 * q = t := ⟨_, rfl⟩
                      have e1 : (4 : Int) * (k : Int) + (q : Int) = (p : Int) := by omega
                      have e3 : (24 : Int) - 8 * (q : Int) = (t : Int) := by omega
                      have b5 : (0 : Int) ≤ t := by omega
                      have b6 : (t : Int) ≤ 24 := by omega
                      have b7 : (0 : Int) ≤ p := by omega
                      have b8 : (p : Int) ≤ 31 := by omega
                      obtain ⟨bx, ox, rfl, cq⟩ := (HRX.out.below HGR.out HOFF.out) k (by rw [HXl.out]; exact hk8)
                      obtain ⟨xv, hxv⟩ : ∃ v, gw X k = v := ⟨_, rfl⟩
                      have b9 : xv < 4294967296 := by rw [← hxv]; exact HXw.out k
                      rw [hxv] at cq
                      obtain ⟨y, hy⟩ : ∃ y, xv / 2 ^ t = y := ⟨_, rfl⟩
                      have e4 : (xv : Int) / 2 ^ t = (y : Int) := by rw [← hy]; simp
                      rw [hp] at HK
                      have hp32 : p < 32 := by omega
                      have ck := HK.out.cell (i := p) (v := Value.int .u8 0) (by rw [List.getElem?_append_right (by simp [outL]), List.length_map, outL_length, Nat.sub_self, List.getElem?_replicate, if_pos (by omega)])
                      have fk := HK.out.frozen p
                      have hob : vb (outB X p) = Value.int .u8 ((y : Int) % 256) := by unfold outB; rw [show p / 4 = k by omega, show 24 - 8 * (p % 4) = t by omega, hxv, hy, vb_ofNat]; simp
                      have hk3 := HK.out.set p (vb (outB X p))
                      rw [outL_set X p hp32, hob] at hk3
                      have hgk := grown_trans HGR.out (grown_setCell wr gs p (Value.int .u8 ((y : Int) % 256)))
                      rw [show p + 1 = 4 * k + (q + 1) by omega] at hk3
                      have HK3 := Lib.hid hk3
                      have HGR3 := Lib.hid hgk
                      clear hp ht hxv hy hob hk3 hgk HK HGR
                      go_wp2
                      exact ⟨⟨q + 1, by omega, by go_num, HK3, HGR3⟩, by simp [intOf]; omega⟩
                    · obtain rfl : q = 4 := by omega
                      rw [show 4 * k + 4 = 4 * (k + 1) by omega] at HK
                      go_wp2
                      exact ⟨⟨k + 1, by omega, by go_num, HK, HGR⟩, by simp [intOf]; omega⟩
                · obtain rfl : k = 8 := by omega
                  obtain ⟨O, hO⟩ : ∃ O, outL X 32 = O := ⟨_, rfl⟩
                  have hOl : O.length = 32 := by rw [← hO]; exact outL_length _ _
                  have hz3 : Hid (wr.heap[gs]? = some (.cells (O.map vb).toArray 33 (0, 0))) := Lib.hid (by have := HK.out; rw [show 4 * 8 = 32 from rfl, hO] at this; simpa [BK] using this)
                  have hz2 : Hid (wr.heap[gz]? = some (.cells (List.replicate 32 (Value.int .u8 0)).toArray 33 (0, 0))) := Lib.hid (HZX.out.same (HGR.out.block gz HZX.out.lt (fun e => by have := Option.some.inj e; omega)))
                  have HBs : Hid (Below gz w wr) := Lib.hid (below_grown HGX.out HGR.out (by have := HZX.out.lt; omega) (by omega))
                  have HIN := Lib.hid (info32 O hOl)
                  have HONE : Hid ((O.map vb).toArray.all (·.oneCell') = true) := Lib.hid (by simp [vb, Value.oneCell'])
                  have HZS : Hid ((List.replicate 32 (Value.int .u8 0)).toArray.size = (O.map vb).toArray.size) := Lib.hid (by simp [hOl])
                  have HO := Lib.hid hO
                  clear hOl hO hk8 hk HK HGR
                  go_wp2_with (first | (refine wpList_load_row rfl 33 _ rfl gs rfl 33 _ (0, 0) _ hz3.out Tryd.underlying33 rfl HIN.out ?_) | (refine wpList_store_row rfl 33 _ _ rfl gz _ rfl rfl 33 _ hz2.out HIN.out HZS.out HONE.out ?_))
                  have HR : (wr.setRow gz (O.map vb).toArray).heap[gz]? = some (.cells (O.map vb).toArray 33 (0, 0)) := setRow_heap wr gz _ _ _ _ hz2.out
                  have HBR := Below.setRow HBs.out (Nat.le_refl gz) (O.map vb).toArray
                  refine bodyPost_ret (results_cell_row rfl _ _ gz 33 _ (0, 0) _ rfl HR Tryd.underlying33 rfl HIN.out) rfl ?_
                  exact ⟨by rw [HXE.out (), HO.out], by rw [HGZ.out]; exact HBR⟩
end Go.Proofs.YtchbnablefoemaaDoor
namespace Go.Proofs.YtchbnablefoemaaDoor
open Go.RowKit
set_option linter.unusedVariables false

set_option maxRecDepth 100000 in
set_option maxHeartbeats 2000000 in
theorem rof_calls (A : Option Addr) (c n : Nat) (l : List UInt8) (hn : l.length = n) (w : World) (h : RB w A l) (hl : n ≤ 100000) :
    Calls Tryd.prog 15 #[.slice A n c] w fun e w' => e = .returned (.agg ((sumL l).map vb).toArray) ∧ Below w.heap.size w w' := by
  have H := Lib.hid h
  have HN := Lib.hid hn
  have HS : Hid (∀ _ : Unit, sumX firstL l n = sumL l) := Lib.hid fun _ => by rw [← hn]; exact endL_whole l
  have HSL := Lib.hid (sumL_length l)
  clear h hn
  go_enter Tryd.func15, Tryd.ntmps15
  go_upto_region 1 with fail
  have HZ := Lib.hid (BK.new w 33 (List.replicate 32 (.int .u8 0)))
  have HB := Lib.hid (ext_alloc w (.cells (List.replicate 32 (Value.int .u8 0)).toArray 33))
  have hsw : w.heap.size < (w.alloc (.cells (List.replicate 32 (Value.int .u8 0)).toArray 33)).heap.size := by simp
  obtain ⟨gz, hgz⟩ : ∃ x, w.heap.size = x := ⟨_, rfl⟩
  rw [hgz] at HZ HB hsw ⊢
  have HGZ := Lib.hid hgz
  refine name_world (fun w1 => BK w1 gz 33 (List.replicate 32 (.int .u8 0)) ∧ Below gz w w1 ∧ gz < w1.heap.size) ⟨HZ.out, HB.out, hsw⟩ ?_
  clear HZ HB hsw
  rintro w1 ⟨hz, hb, hsz⟩
  have HZ := Lib.hid hz
  have HB := Lib.hid hb
  rw [← hgz] at hb
  have HH := Lib.hid (H.out.ext hb)
  clear hz hb hgz
  go_wp2_with fail
  refine (consts_calls 8 2 18 primes8 roots8 firstL pl8 rfl rfl few8 (by decide) (by decide) ok8 (by decide) (by decide) w1).mono ?_
  rintro e w2 ⟨A1, c1, rfl, hc1, hr1, hb1⟩
  have HR1 := Lib.hid hr1
  have HB1 := Lib.hid hb1
  clear hr1 hb1
  go_wp2_with fail
  refine (consts_calls 64 3 310 primes64 roots64 roundsL pl64 rfl rfl few64 (by decide) (by decide) ok64 (by decide) (by decide) w2).mono ?_
  rintro e w3 ⟨A2, c2, rfl, hc2, hr2, hb2⟩
  have HR2 := Lib.hid hr2
  have HR1' := Lib.hid (HR1.out.ext hb2)
  have HB2 := Lib.hid (ext_trans HB1.out hb2)
  have HH3 := Lib.hid (HH.out.ext HB2.out)
  clear hr2 hb2 HR1 HB1
  go_wp2_with fail
  refine (rsum_calls firstL rfl firstL_words A1 A2 A c1 c2 c n l HN.out w3 HR1'.out HR2.out HH3.out hc1 hc2 hl).mono ?_
  rintro e w4 ⟨rfl, hb4⟩
  rw [HS.out ()]
  have HB4 := Lib.hid (ext_trans HB2.out hb4)
  have HBs : Hid (Below gz w w4) := Lib.hid (HB.out.trans (HB4.out.mono (by omega)))
  have hz2 : Hid (w4.heap[gz]? = some (.cells (List.replicate 32 (Value.int .u8 0)).toArray 33 (0, 0))) := Lib.hid (HZ.out.ext HB4.out)
  obtain ⟨O, hO⟩ : ∃ O, sumL l = O := ⟨_, rfl⟩
  rw [hO] at HSL ⊢
  have HIN := Lib.hid (info32 O HSL.out)
  have HONE : Hid ((O.map vb).toArray.all (·.oneCell') = true) := Lib.hid (by simp [vb, Value.oneCell'])
  have HZS : Hid ((List.replicate 32 (Value.int .u8 0)).toArray.size = (O.map vb).toArray.size) := Lib.hid (by simp [HSL.out])
  have HO := Lib.hid hO
  clear hO hb4 HB4 HB2 HR2 HR1' HH3 hsz hc1 hc2
  go_wp2_with (first | (refine wpList_store_row rfl 33 _ _ rfl gz _ rfl rfl 33 _ hz2.out HIN.out HZS.out HONE.out ?_))
  have HR : (w4.setRow gz (O.map vb).toArray).heap[gz]? = some (.cells (O.map vb).toArray 33 (0, 0)) := setRow_heap w4 gz _ _ _ _ hz2.out
  have HBR := Below.setRow HBs.out (Nat.le_refl gz) (O.map vb).toArray
  refine bodyPost_ret (results_cell_row rfl _ _ gz 33 _ (0, 0) _ rfl HR Tryd.underlying33 rfl HIN.out) rfl ?_
  exact ⟨by rw [HO.out], by rw [HGZ.out]; exact HBR⟩

theorem RN.lit (k : IntKind) (w : World) (e : TypeId) (l : List Nat) (hm : l.length ≤ maxLen) : RN k (w.alloc (.cells (l.map (vn k)).toArray e)) (some ⟨w.heap.size, 0, none⟩) l := by
  obtain ⟨A, c, hv, hr, _⟩ := (OwnN.lit k w.heap.size e w l (Nat.le_refl _) hm).form
  injection hv with ea
  rw [ea]
  exact hr
set_option maxRecDepth 100000 in
set_option maxHeartbeats 2000000 in
theorem quick_calls (A : Option Addr) (c n : Nat) (l : List UInt8) (hn : l.length = n) (w : World) (h : RB w A l) (hl : n ≤ 100000) :
    Calls Tryd.prog 16 #[.slice A n c] w fun e w' => e = .returned (.agg ((sumL l).map vb).toArray) ∧ Below w.heap.size w w' := by
  have H := Lib.hid h
  have HN := Lib.hid hn
  have HS : Hid (∀ _ : Unit, sumX firstL l n = sumL l) := Lib.hid fun _ => by rw [← hn]; exact endL_whole l
  have HSL := Lib.hid (sumL_length l)
  clear h hn
  go_enter Tryd.func16, Tryd.ntmps16
  go_upto_region 1 with fail
  have HZ := Lib.hid (BK.new w 33 (List.replicate 32 (.int .u8 0)))
  have HB := Lib.hid (ext_alloc w (.cells (List.replicate 32 (Value.int .u8 0)).toArray 33))
  have hsw : w.heap.size < (w.alloc (.cells (List.replicate 32 (Value.int .u8 0)).toArray 33)).heap.size := by simp
  obtain ⟨gz, hgz⟩ : ∃ x, w.heap.size = x := ⟨_, rfl⟩
  rw [hgz] at HZ HB hsw ⊢
  have HGZ := Lib.hid hgz
  refine name_world (fun w1 => BK w1 gz 33 (List.replicate 32 (.int .u8 0)) ∧ Below gz w w1 ∧ gz < w1.heap.size) ⟨HZ.out, HB.out, hsw⟩ ?_
  clear HZ HB hsw
  rintro w1 ⟨hz, hb, hsz⟩
  have HZ := Lib.hid hz
  have HB := Lib.hid hb
  rw [← hgz] at hb
  have HH := Lib.hid (H.out.ext hb)
  clear hz hb hgz
  go_upto_region 2 with fail
  obtain ⟨gk, hgk⟩ : ∃ x, w1.heap.size = x := ⟨_, rfl⟩
  have HGK := Lib.hid hgk
  rw [hgk] at hsz ⊢
  have hR := RN.lit .u32 w1 25 roundsL (by decide)
  rw [hgk] at hR
  refine name_world (fun w2 => RN .u32 w2 (some ⟨gk, 0, none⟩) roundsL ∧ Below gk w1 w2) ⟨hR, by have := ext_alloc w1 (.cells (roundsL.map (vn .u32)).toArray 25); rw [hgk] at this; exact this⟩ ?_
  clear hR
  rintro w2 ⟨hR, hb2⟩
  have HR := Lib.hid hR
  have HB2 := Lib.hid hb2
  rw [← hgk] at hb2
  have hR0 := RN.lit .u32 w2 25 firstL (by decide)
  have HR0 := Lib.hid hR0
  have HB3 : Hid (Below w1.heap.size w1 (w2.alloc (.cells (firstL.map (vn .u32)).toArray 25))) := Lib.hid (hb2.alloc hb2.size _)
  have HR2 := Lib.hid (HR.out.ext (ext_alloc w2 (.cells (firstL.map (vn .u32)).toArray 25)))
  have HH3 := Lib.hid (HH.out.ext HB3.out)
  clear hR hb2 hR0 hgk
  go_wp2_with fail
  refine (rsum_calls firstL rfl firstL_words (some ⟨w2.heap.size, 0, none⟩) (some ⟨gk, 0, none⟩) A 8 64 c n l HN.out _ HR0.out HR2.out HH3.out (Nat.le_refl _) (Nat.le_refl _) hl).mono ?_
  rintro e w4 ⟨rfl, hb4⟩
  rw [HS.out ()]
  have HB4 := Lib.hid (ext_trans HB3.out hb4)
  have HBs : Hid (Below gz w w4) := Lib.hid (HB.out.trans (HB4.out.mono (by rw [HGK.out]; omega)))
  have hz2 : Hid (w4.heap[gz]? = some (.cells (List.replicate 32 (Value.int .u8 0)).toArray 33 (0, 0))) := Lib.hid (HZ.out.ext HB4.out)
  obtain ⟨O, hO⟩ : ∃ O, sumL l = O := ⟨_, rfl⟩
  rw [hO] at HSL ⊢
  have HIN := Lib.hid (info32 O HSL.out)
  have HONE : Hid ((O.map vb).toArray.all (·.oneCell') = true) := Lib.hid (by simp [vb, Value.oneCell'])
  have HZS : Hid ((List.replicate 32 (Value.int .u8 0)).toArray.size = (O.map vb).toArray.size) := Lib.hid (by simp [HSL.out])
  have HO := Lib.hid hO
  clear hO hb4 HB4 HR HR0 HR2 HB2 HB3 HH3 hsz
  go_wp2_with (first | (refine wpList_store_row rfl 33 _ _ rfl gz _ rfl rfl 33 _ hz2.out HIN.out HZS.out HONE.out ?_))
  have HR : (w4.setRow gz (O.map vb).toArray).heap[gz]? = some (.cells (O.map vb).toArray 33 (0, 0)) := setRow_heap w4 gz _ _ _ _ hz2.out
  have HBR := Below.setRow HBs.out (Nat.le_refl gz) (O.map vb).toArray
  refine bodyPost_ret (results_cell_row rfl _ _ gz 33 _ (0, 0) _ rfl HR Tryd.underlying33 rfl HIN.out) rfl ?_
  exact ⟨by rw [HO.out], by rw [HGZ.out]; exact HBR⟩
end Go.Proofs.YtchbnablefoemaaDoor
