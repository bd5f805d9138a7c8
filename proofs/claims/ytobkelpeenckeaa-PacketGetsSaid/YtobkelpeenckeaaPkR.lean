/- The walk of flumeref04's Get. -/
import Derived.Test.YtobkelpeenckeaaPkP
import Derived.Test.YtobkelpeenckeaaPkQ
namespace Go.Proofs.Ytobkelpeenckeaa
open Go.RowKit
set_option linter.unusedVariables false
set_option linter.unusedSimpArgs false

theorem rinet_one (A : Option Addr) (c n : Nat) (l : List UInt8) (hn : l.length = n) (hc : n ≤ c) (hl : n ≤ 100000) (w : World) (h : RB w A l) (S : Nat) (hS : w.heap.size = S) :
    Calls Try.prog 44 #[.slice (some ⟨S, 0, none⟩) 1 1] (w.alloc (.cells #[.slice A n c] 23)) fun e w' => e = .returned (.int .u16 (inetN [l] : Nat)) ∧ Below w.heap.size w w' := by
  subst hS
  have := rinet_calls (some ⟨w.heap.size, 0, none⟩) 1 [l] _ (RBB.one A c n l h hn.symm hc 23) (by simp) (fun i hi => by
    obtain rfl : i = 0 := by simpa using hi
    show l.length ≤ _
    omega) (by
    show (wordsTo2 [l] 1).length ≤ _
    simp only [wordsTo2, List.nil_append, wordsL_length]
    show (l.length + 1) / 2 ≤ _
    omega)
  rw [← inet_eq] at this
  refine this.mono ?_
  rintro e w' ⟨rfl, hb⟩
  exact ⟨rfl, ext_trans (ext_alloc _ _) hb⟩
set_option maxRecDepth 100000 in
set_option maxHeartbeats 2000000 in
theorem rget_short (A : Option Addr) (c n : Nat) (l : List UInt8) (hn : l.length = n) (w : World) (h : RB w A l) (hs : n < 22 ∨ n < 22 + gb l 20) :
    Calls Try.prog 28 #[.slice A n c] w fun e w' => e = .returned (.tuple #[.agg zeroCs.toArray, .int .i64 2]) ∧ Below w.heap.size w w' := by
  have H := Lib.hid h
  have HN := Lib.hid hn
  clear h hn
  by_cases h22 : n < 22
  · clear hs
    go_enter Try.func28, Try.ntmps28
    go_wp2_with fail
    refine bodyPost_ret (results_ct rfl _ _ w.heap.size 25 _ (0, 0) _ rfl (zero_new w) Try.underlying25 rfl (infoP _ rfl)) rfl ?_
    exact ⟨rfl, ext_alloc _ _⟩
  · obtain ⟨b, o, rfl, hcl⟩ := H.out.form (by rw [HN.out]; omega)
    have c20 := hcl 20 (by rw [HN.out]; omega)
    have c20' := (ext_alloc w (.cells zeroCs.toArray 25)).cell (p := ⟨b, o + 20, none⟩) (World.block_lt_of_cell? w _ c20)
    have h20 : n < 22 + gb l 20 := by omega
    obtain ⟨x, hx⟩ : ∃ x, gb l 20 = x := ⟨_, rfl⟩
    rw [hx] at c20 h20
    rw [c20] at c20'
    have hx8 := gb_lt l 20
    rw [hx] at hx8
    simp only [zeroCs] at c20'
    clear hcl hs hx c20
    go_enter Try.func28, Try.ntmps28
    go_wp2_with fail
    refine bodyPost_ret (results_ct rfl _ _ w.heap.size 25 _ (0, 0) _ rfl (zero_new w) Try.underlying25 rfl (infoP _ rfl)) rfl ?_
    exact ⟨rfl, ext_alloc _ _⟩
set_option maxRecDepth 100000 in
set_option maxHeartbeats 2000000 in
theorem rget_sum (A : Option Addr) (c n : Nat) (l : List UInt8) (hn : l.length = n) (w : World) (h : RB w A l) (hc : n ≤ c) (hl : n ≤ 100000) (h22 : 22 ≤ n) (h20 : 22 + gb l 20 ≤ n) (hv : ¬ (inetN [l] = 65535 ∨ inetN [l] = 0)) :
    Calls Try.prog 28 #[.slice A n c] w fun e w' => e = .returned (.tuple #[.agg zeroCs.toArray, .int .i64 10]) ∧ Below w.heap.size w w' := by
  have H := Lib.hid h
  have HN := Lib.hid hn
  obtain ⟨b, o, rfl, hcl⟩ := h.form (by omega)
  have HVC := Lib.hid (rinet_one (some ⟨b, o, none⟩) c n l hn hc hl)
  obtain ⟨S, hS⟩ : ∃ S, inetN [l] = S := ⟨_, rfl⟩
  rw [hS] at HVC hv
  have hs1 : ((S : Int) != 0) = true := by simp; omega
  have hs2 : ((S : Int) != 65535) = true := by simp; omega
  have hs3 : ((S : Int) == 0) = false := beq_eq_false_iff_ne.2 (by omega)
  have hs4 : ((S : Int) == 65535) = false := beq_eq_false_iff_ne.2 (by omega)
  clear hS
  have c20 := hcl 20 (by omega)
  have c20' := (ext_alloc w (.cells zeroCs.toArray 25)).cell (p := ⟨b, o + 20, none⟩) (World.block_lt_of_cell? w _ c20)
  obtain ⟨x, hx⟩ : ∃ x, gb l 20 = x := ⟨_, rfl⟩
  rw [hx] at c20 h20
  rw [c20] at c20'
  have hx8 := gb_lt l 20
  rw [hx] at hx8
  have hz := zero_new w
  have hbz := ext_alloc w (.cells zeroCs.toArray 25)
  have hrz := h.ext hbz
  have HZ := Lib.hid hz
  have HBZ := Lib.hid hbz
  have HRZ := Lib.hid hrz
  simp only [zeroCs] at c20' HZ HBZ HRZ
  clear hcl hx c20 hv h hn hz hbz hrz
  go_enter Try.func28, Try.ntmps28
  go_wp2_with fail
  refine (HVC.out _ HRZ.out (w.heap.size + 1) (by simp)).mono ?_
  rintro e w2 ⟨rfl, hb2⟩
  have HG2 := Lib.hid ((hb2.block w.heap.size (by simp)).trans HZ.out)
  have HB2 := Lib.hid (ext_trans HBZ.out hb2)
  have hl2 : w.heap.size < w2.heap.size := by have := hb2.size; simp at this; omega
  clear hb2
  go_wp2_with ((with_reducible refine (?_ : wpList _ _ _ (_ :: _) _ _)); refine wpList_store_bk rfl 25 _ _ rfl w.heap.size zeroCs rfl rfl 25 _ HG2.out (infoP _ rfl) rfl one_zero ?_)
  intro w3 hk3 hg3 _
  have HK3 := Lib.hid hk3
  have HB3 := Lib.hid (below_grown HB2.out hg3 (by omega) (Nat.le_refl _))
  clear hk3 hg3
  go_wp2_with fail
  refine bodyPost_ret (results_ct rfl _ _ w.heap.size 25 _ (0, 0) _ rfl HK3.out Try.underlying25 rfl (infoP _ rfl)) rfl ?_
  exact ⟨rfl, HB3.out⟩

/-- What region 9 of the reference's Get goes through: the packet is made, then filled. -/
def GInvR (w : World) (l : List UInt8) (bb : Nat → Bool) (W : World) : Prop :=
  Below w.heap.size w W ∧ (bif bb 31 then BK W w.heap.size 25 (baseCs l) else bif bb 30 then BK W w.heap.size 25 zeroCs else W.heap.size = w.heap.size)
section
variable {w W W' : World} {l : List UInt8} {bb : Nat → Bool}
theorem GInvR.start (w : World) (l : List UInt8) : GInvR w l (fun _ => false) w.drew := ⟨(Below.refl _ _).drew, rfl⟩
theorem GInvR.zero (h : GInvR w l bb W) (n31 : bb 31 = false) (n30 : bb 30 = false) : W.heap.size = w.heap.size := by
  have := h.2; rw [n31, n30] at this; exact this
theorem GInvR.made (h : GInvR w l bb W) (n31 : bb 31 = false) (n30 : bb 30 = false) : GInvR w l (upd bb 30) (W.alloc (.cells zeroCs.toArray 25)) := by
  have hz := h.zero n31 n30
  refine ⟨h.1.alloc (by omega) _, ?_⟩
  rw [upd_ne (by decide), n31, upd_self]
  have := BK.new W 25 zeroCs
  rw [hz] at this
  exact this
theorem GInvR.mid (h : GInvR w l bb W) (n31 : bb 31 = false) (p30 : bb 30 = true) : BK W w.heap.size 25 zeroCs := by
  have := h.2; rw [n31, p30] at this; exact this
theorem GInvR.fill (h : GInvR w l bb W) (hk : BK W' w.heap.size 25 (baseCs l)) (hg : W.grownBy W' (some w.heap.size)) : GInvR w l (upd bb 31) W' :=
  ⟨below_grown h.1 hg h.1.size (Nat.le_refl _), by rw [upd_self]; exact hk⟩
theorem GInvR.done (h : GInvR w l bb W) (p31 : bb 31 = true) : BK W w.heap.size 25 (baseCs l) := by
  have := h.2; rw [p31] at this; exact this
theorem GInvR.step (h : GInvR w l bb W) {i : Nat} (h1 : i ≠ 30) (h2 : i ≠ 31) : GInvR w l (upd bb i) W := by
  refine ⟨h.1, ?_⟩
  rw [upd_ne (Ne.symm h1), upd_ne (Ne.symm h2)]
  exact h.2
theorem GInvR.drew (h : GInvR w l bb W) (d : Nat) : GInvR w l bb (W.drewN d) := by
  refine ⟨ext_drewN h.1 d, ?_⟩
  have hb := ext_drewN (Below.refl W.heap.size W) d
  have hs : (W.drewN d).heap.size = W.heap.size := by simp
  have h2 := h.2
  cases h31 : bb 31 with
  | true => rw [h31] at h2; exact BK.ext h2 hb
  | false =>
    cases h30 : bb 30 with
    | true => rw [h31, h30] at h2; exact BK.ext h2 hb
    | false => rw [h31, h30] at h2; exact hs.trans h2
end
theorem num_two (l : List UInt8) (i : Nat) (h : i + 2 ≤ l.length) : numL ((l.take (i + 2)).drop i) 2 = (nb2 l i : Int) := by
  rw [numL_two]
  unfold nb2
  rw [gb_drop, gb_drop, gb_take _ _ _ (by omega), gb_take _ _ _ (by omega)]
  rfl
theorem num_four (l : List UInt8) (i : Nat) (h : i + 4 ≤ l.length) : numL ((l.take (i + 4)).drop i) 4 = (nb4 l i : Int) := by
  rw [numL_four]
  unfold nb4
  rw [gb_drop, gb_drop, gb_drop, gb_drop, gb_take _ _ _ (by omega), gb_take _ _ _ (by omega), gb_take _ _ _ (by omega), gb_take _ _ _ (by omega)]
  rfl
/-- What region 10 leaves: the data of the packet's own. -/
def GCut (w : World) (k0 k1 b o dl : Nat) (l data : List UInt8) (wc : World) : Prop :=
  ∃ R d, dl ≤ d ∧ OwnB k0 5 wc (.slice R dl d) data ∧ BK wc k1 25 ((baseCs l).set 10 (.slice R dl d)) ∧ BK wc k0 25 zeroCs ∧ RB wc (some ⟨b, o, none⟩) l ∧ Below k0 w wc
/-- The packet of the front of the bytes l, with this probe and origin. -/
def candPO (l data : List UInt8) (pr og : Int) : Pk := ⟨gb l 1, gb l 2, nb2 l 4, nb2 l 6, nb4 l 8, nb4 l 12, gb l 3, nb2 l 16, pr, og, data⟩
theorem candPO_R (l opt data : List UInt8) : candPO l data (prR opt) (ogR opt : Int) = candR l opt data := rfl
theorem base_PO (l data : List UInt8) (R : Option Addr) (n d : Nat) : (baseCs l).set 10 (.slice R n d) = (candPO l data 0 0).cs R n d := rfl
theorem set8_PO (l data : List UInt8) (R : Option Addr) (n d : Nat) (a b x : Int) : ((candPO l data a b).cs R n d).set 8 (.int .i64 x) = (candPO l data x b).cs R n d := rfl
theorem set9_PO (l data : List UInt8) (R : Option Addr) (n d : Nat) (a b x : Int) : ((candPO l data a b).cs R n d).set 9 (.int .i64 x) = (candPO l data a x).cs R n d := rfl
/-- What the packet is, and what else stands. -/
def GFin (w : World) (k0 k1 b o dl : Nat) (l opt data : List UInt8) (R : Option Addr) (d : Nat) (O : Option Addr) (pr og : Int) (wc : World) : Prop :=
  OwnB k0 5 wc (.slice R dl d) data ∧ BK wc k1 25 ((candPO l data pr og).cs R dl d) ∧ BK wc k0 25 zeroCs ∧ RB wc (some ⟨b, o, none⟩) l ∧ Below k0 w wc ∧ RB wc O opt
theorem GFin.set {w : World} {k0 k1 b o dl : Nat} {l opt data : List UInt8} {R : Option Addr} {d : Nat} {O : Option Addr} {pr og : Int} {wc : World} (h : GFin w k0 k1 b o dl l opt data R d O pr og wc) (hk : k0 < k1) (hb : b ≠ k1) (hO : 0 < opt.length → Off k1 O) (j : Nat) (v : Value) (pr' og' : Int)
    (e : ((candPO l data pr og).cs R dl d).set j v = (candPO l data pr' og').cs R dl d) : GFin w k0 k1 b o dl l opt data R d O pr' og' (wc.setCell ⟨k1, j, none⟩ v) := by
  obtain ⟨h1, h2, h3, h4, h5, h6⟩ := h
  have hgr := grown_setCell wc k1 j v
  refine ⟨h1.other hgr (.inr (own_ne_bk h1 h2 (by decide))), e ▸ h2.set j v, h3.same (hgr.block k0 h3.lt (fun e => by have := Option.some.inj e; omega)), h4.grown hgr (fun _ _ _ e => by cases e; exact hb), below_grown h5 hgr (by have := h3.lt; omega) (by omega), h6.grown hgr hO⟩
def IffB (q : Bool) (p : Prop) : Prop := q = true ↔ p
theorem candR_neg (l opt data : List UInt8) (n : Nat) (h : prR opt < 0) : okN (candR l opt data) n = false := by
  cases hk : okN (candR l opt data) n with
  | false => rfl
  | true =>
    exfalso
    unfold okN at hk
    simp only [Bool.and_eq_true, decide_eq_true_eq] at hk
    have : 0 ≤ prR opt := hk.2.2.2.2.2.2.2.1.1
    omega


set_option maxRecDepth 100000 in
set_option maxHeartbeats 3000000 in
theorem rget_main (A : Option Addr) (c n : Nat) (l : List UInt8) (hn : l.length = n) (w : World) (h : RB w A l) (hc : n ≤ c) (hcm : c ≤ 9223372036854775807) (hl : n ≤ 100000) (h22 : 22 ≤ n) (h20 : 22 + gb l 20 ≤ n) (hv : inetN [l] = 65535 ∨ inetN [l] = 0) :
    Calls Try.prog 28 #[.slice A n c] w (Got w l) := by
  have H := Lib.hid h
  have HN := Lib.hid hn
  obtain ⟨b, o, rfl, hcl⟩ := h.form (by omega)
  have HVC := Lib.hid (rinet_one (some ⟨b, o, none⟩) c n l hn hc hl)
  have HGP0 := Lib.hid (fun x hx (h1 : 22 + x ≤ l.length) => getP_mainR (l := l) (x := x) hx (by omega) h1 hv)
  obtain ⟨S, hS⟩ : ∃ S, inetN [l] = S := ⟨_, rfl⟩
  rw [hS] at HVC hv
  clear hS
  have c20 := hcl 20 (by omega)
  have hblt := World.block_lt_of_cell? w _ c20
  have c20' := (ext_alloc w (.cells zeroCs.toArray 25)).cell (p := ⟨b, o + 20, none⟩) hblt
  obtain ⟨x, hx⟩ : ∃ x, gb l 20 = x := ⟨_, rfl⟩
  rw [hx] at c20 h20
  rw [c20] at c20'
  have hx8 := gb_lt l 20
  rw [hx] at hx8
  have hz := zero_new w
  have hbz := ext_alloc w (.cells zeroCs.toArray 25)
  have hrz := h.ext hbz
  have HZ := Lib.hid hz
  have HBZ := Lib.hid hbz
  have HRZ := Lib.hid hrz
  have HX := Lib.hid hx
  have hgp := HGP0.out x hx (by omega)
  obtain ⟨e, he⟩ : ∃ e, 22 + x = e := ⟨_, rfl⟩
  rw [he] at hgp h20
  have HGP := Lib.hid hgp
  have hei : 22 + (x : Int) = (e : Int) := by omega
  have he22 : 22 ≤ e := by omega
  have hex : x = e - 22 := by omega
  have HEX := Lib.hid hex
  clear HGP0
  simp only [zeroCs] at c20' HZ HBZ HRZ
  clear hcl hx c20 h hn hz hbz hrz hgp he hex
  go_enter Try.func28, Try.ntmps28
  go_wp2_with fail
  refine (HVC.out _ HRZ.out (w.heap.size + 1) (by simp)).mono ?_
  rintro e w5 ⟨rfl, hb2⟩
  obtain ⟨k0, hk0⟩ : ∃ k, w.heap.size = k := ⟨_, rfl⟩
  have HG2 := Lib.hid ((hb2.block w.heap.size (by simp)).trans HZ.out)
  have HB2 := Lib.hid (ext_trans HBZ.out hb2)
  have HR5 := Lib.hid (HRZ.out.ext hb2)
  have hl2 : w.heap.size < w5.heap.size := by have := hb2.size; simp at this; omega
  have hb5 : b < w5.heap.size := by omega
  have HK0 := Lib.hid hk0
  rw [hk0] at HG2 HB2 hl2 hblt ⊢
  obtain ⟨_, _, eA, hcl5⟩ := HR5.out.form (by rw [HN.out]; omega)
  cases eA
  have c20 := hcl5 20 (by rw [HN.out]; omega)
  rw [HX.out] at c20
  have C1 := Lib.hid (hcl5 1 (by rw [HN.out]; omega))
  have C2 := Lib.hid (hcl5 2 (by rw [HN.out]; omega))
  have C3 := Lib.hid (hcl5 3 (by rw [HN.out]; omega))
  have HLT := Lib.hid hb5
  clear hb2 hcl5 HRZ HBZ HZ HVC c20' hk0
  go_upto_region 4 with fail
  go_cut [32] from 27 to 32 (fun v wc => v = .bool false ∧ wc = w5)
  case first =>
    rcases hv with rfl | rfl
    · go_wp2_with fail
      go_meet
      case rel => exact ⟨rfl, rfl⟩
    · go_wp2_with fail
      go_meet
      case rel => exact ⟨rfl, rfl⟩
  case rest =>
    obtain ⟨rfl, hwc⟩ := hcut
    obtain rfl : w5 = wc := hwc.symm
    clear hv hwc
    obtain ⟨data, hdata⟩ : ∃ p, l.drop e = p := ⟨_, rfl⟩
    obtain ⟨dl, hdl⟩ : ∃ p, n - e = p := ⟨_, rfl⟩
    have hdl2 : data.length = dl := by rw [← hdata, List.length_drop, HN.out, hdl]
    have HDL := Lib.hid hdl2
    have HDT := Lib.hid hdata
    have hdli : (n : Int) - ((e : Int)) = (dl : Int) := by omega
    obtain ⟨opt, hopt⟩ : ∃ p, (l.take e).drop 22 = p := ⟨_, rfl⟩
    have hol : opt.length = x := by have := HEX.out; rw [← hopt, List.length_drop, List.length_take, HN.out]; omega
    have HOL := Lib.hid hol
    have HOPT := Lib.hid hopt
    have HDL0 := Lib.hid hdl
    clear hdata hdl2 hopt hol
    by_cases hd128 : 128 < dl
    · clear hdl
      go_wp2_with ((with_reducible refine (?_ : wpList _ _ _ (_ :: _) _ _)); refine wpList_store_bk rfl 25 _ _ rfl k0 zeroCs rfl rfl 25 _ HG2.out (infoP _ rfl) rfl one_zero ?_)
      intro wz hkz hgz _
      have HKZ := Lib.hid hkz
      have HBZ := Lib.hid (below_grown HB2.out hgz (by have := HB2.out.size; omega) (Nat.le_refl _))
      clear hkz hgz
      go_wp2_with fail
      refine bodyPost_ret (results_ct rfl _ _ k0 25 _ (0, 0) _ rfl HKZ.out Try.underlying25 rfl (infoP _ rfl)) rfl ?_
      exact Got.zero (by rw [HK0.out]; exact HBZ.out) ((HGP.out opt data _ HOPT.out HDT.out rfl).1 (by rw [HDL.out]; exact hd128))
    · clear hdl
      go_upto_region 9 with fail
      refine wp_region_inv [[], [0], [0, 1], [0, 1, 2], [], [4], [4, 5], [4, 5, 6], [], [8], [8, 9], [8, 9, 10], [], [12], [12, 13], [], [15], [12, 13, 14, 15, 16], [], [18], [12, 13, 14, 15, 16, 17, 18, 19], [12, 13, 14, 15, 16, 17, 18, 19, 20], [], [22], [12, 13, 14, 15, 16, 17, 18, 19, 20, 22, 23], [12, 13, 14, 15, 16, 17, 18, 19, 20, 22, 23, 24], [], [26], [12, 13, 14, 15, 16, 17, 18, 19, 20, 22, 23, 24, 26, 27], [0, 1, 2, 3, 4, 5, 6, 7, 8, 9, 10, 11, 12, 13, 14, 15, 16, 17, 18, 19, 20, 21, 22, 23, 24, 25, 26, 27, 28], [], [0, 1, 2, 3, 4, 5, 6, 7, 8, 9, 10, 11, 12, 13, 14, 15, 16, 17, 18, 19, 20, 21, 22, 23, 24, 25, 26, 27, 28, 29, 30]]
        [fun u => u = .slice (some ⟨b, o, none⟩) n c,
         fun u => u = .pointer (some ⟨b, o + 1, none⟩),
         fun u => u = .int .u8 (gb l 1 : Int),
         fun u => u = .int .i64 (gb l 1 : Int),
         fun u => u = .slice (some ⟨b, o, none⟩) n c,
         fun u => u = .pointer (some ⟨b, o + 2, none⟩),
         fun u => u = .int .u8 (gb l 2 : Int),
         fun u => u = .int .i64 (gb l 2 : Int),
         fun u => u = .slice (some ⟨b, o, none⟩) n c,
         fun u => u = .pointer (some ⟨b, o + 3, none⟩),
         fun u => u = .int .u8 (gb l 3 : Int),
         fun u => u = .int .i64 (gb l 3 : Int),
         fun u => u = .slice (some ⟨b, o, none⟩) n c,
         fun u => u = .slice (some ⟨b, o + 4, none⟩) 2 (c - 4),
         fun u => u = .int .i64 (nb2 l 4 : Int),
         fun u => u = .slice (some ⟨b, o, none⟩) n c,
         fun u => u = .slice (some ⟨b, o + 6, none⟩) 2 (c - 6),
         fun u => u = .int .i64 (nb2 l 6 : Int),
         fun u => u = .slice (some ⟨b, o, none⟩) n c,
         fun u => u = .slice (some ⟨b, o + 8, none⟩) 4 (c - 8),
         fun u => u = .int .i64 (nb4 l 8 : Int),
         fun u => u = .int .u32 (nb4 l 8 : Int),
         fun u => u = .slice (some ⟨b, o, none⟩) n c,
         fun u => u = .slice (some ⟨b, o + 12, none⟩) 4 (c - 12),
         fun u => u = .int .i64 (nb4 l 12 : Int),
         fun u => u = .int .u32 (nb4 l 12 : Int),
         fun u => u = .slice (some ⟨b, o, none⟩) n c,
         fun u => u = .slice (some ⟨b, o + 16, none⟩) 2 (c - 16),
         fun u => u = .int .i64 (nb2 l 16 : Int),
         fun u => u = .agg (baseCs l).toArray,
         fun u => u = .pointer (some ⟨w5.heap.size, 0, none⟩),
         fun _ => True]
        (fun u => ⟨#[Value.slice (some { block := b, off := o }) n c, undef, Value.pointer (some { block := k0, off := 0 }), Value.int IntKind.i64 0, Value.int IntKind.u16 (S : Int), Value.int IntKind.i64 (e : Int), u 30, undef, undef, undef, Value.slice (some { block := b, off := o }) n c, Value.int IntKind.i64 (n : Int), Value.bool (decide ((n : Int) < 22)), Value.bool (decide ((n : Int) < 22)), Value.slice (some { block := b, off := o }) n c, Value.int IntKind.i64 (n : Int), Value.slice (some { block := b, off := o }) n c, Value.pointer (some { block := b, off := o + 20 }), Value.int IntKind.u8 (x : Int), Value.int IntKind.i64 (x : Int), Value.int IntKind.i64 (e : Int), Value.bool false, Value.bool (decide ((n : Int) < 22)), undef, Value.slice (some { block := b, off := o }) n c, Value.slice (some { block := k0 + 1, off := 0 }) 1 1, Value.int IntKind.u16 (S : Int), u27, u28, u29, u30, u31, Value.bool false, undef, Value.slice (some { block := b, off := o }) n c, Value.pointer (some { block := b, off := o + 20 }), Value.int IntKind.u8 (x : Int), Value.int IntKind.i64 (x : Int), Value.int IntKind.i64 (e : Int), Value.slice (some { block := b, off := o }) n c, Value.int IntKind.i64 (n : Int), Value.int IntKind.i64 (e : Int), Value.int IntKind.i64 (dl : Int), Value.bool (decide (128 < (dl : Int))), undef, u 0, u 1, u 2, u 3, u 4, u 5, u 6, u 7, u 8, u 9, u 10, u 11, u 12, u 13, u 14, u 15, u 16, u 17, u 18, u 19, u 20, u 21, u 22, u 23, u 24, u 25, u 26, u 27, u 28, u 29, undef, undef, undef, undef, undef, undef, undef, undef, undef, undef, undef, undef, undef, undef, undef, undef, undef, undef, undef, undef, undef, undef, undef, undef, undef, undef, undef, undef, undef, undef, undef, undef, undef, undef, undef, undef, undef, undef, undef, undef, undef, undef, undef, undef, undef, undef, undef, undef, undef, undef, undef, undef, undef, undef, undef, undef, undef], []⟩)
        (GInvR w5 l) (fun j => [undef, undef, undef, undef, undef, undef, undef, undef, undef, undef, undef, undef, undef, undef, undef, undef, undef, undef, undef, undef, undef, undef, undef, undef, undef, undef, undef, undef, undef, undef, undef, undef].getD j undef) (by kernel_rfl) (by kernel_rfl) (by kernel_rfl) rfl (GInvR.start _ _) ?_ ?_
      · refine ⟨?_, ?_, ?_, ?_, ?_, ?_, ?_, ?_, ?_, ?_, ?_, ?_, ?_, ?_, ?_, ?_, ?_, ?_, ?_, ?_, ?_, ?_, ?_, ?_, ?_, ?_, ?_, ?_, ?_, ?_, ?_, ?_, trivial⟩
        · intro bb u w2 hv hbi hC hF J K hJ hK
          have HV := Lib.hid hv
          have HF := Lib.hid hF
          have HC := Lib.hid hC
          have HBI := Lib.hid hbi
          clear hv hF hC hbi
          go_wp2
          exact hJ _ _ _ (HV.out.step (by decide) (by decide)) (rfl) (by simp [setU] <;> omega)
        · intro bb u w2 hv hbi hC hF J K hJ hK
          have HV := Lib.hid hv
          have HF := Lib.hid hF
          have HC := Lib.hid hC
          have HBI := Lib.hid hbi
          clear hv hF hC hbi
          have f0 : u 0 = .slice (some ⟨b, o, none⟩) n c := (HF.out 0 (by decide)).2
          go_wp2
          exact hJ _ _ _ (HV.out.step (by decide) (by decide)) (rfl) (by simp [setU, f0] <;> omega)
        · intro bb u w2 hv hbi hC hF J K hJ hK
          have HV := Lib.hid hv
          have HF := Lib.hid hF
          have HC := Lib.hid hC
          have HBI := Lib.hid hbi
          clear hv hF hC hbi
          have f1 : u 1 = .pointer (some ⟨b, o + 1, none⟩) := (HF.out 1 (by decide)).2
          have q0 : w2.cell? ⟨b, o + 1, none⟩ = some (.int .u8 (gb l 1 : Int)) := (HV.out.1.cell (p := ⟨b, o + 1, none⟩) HLT.out).trans C1.out
          go_wp2
          exact hJ _ _ _ (HV.out.step (by decide) (by decide)) (rfl) (by simp [setU, f1] <;> omega)
        · intro bb u w2 hv hbi hC hF J K hJ hK
          have HV := Lib.hid hv
          have HF := Lib.hid hF
          have HC := Lib.hid hC
          have HBI := Lib.hid hbi
          clear hv hF hC hbi
          have f2 : u 2 = .int .u8 (gb l 1 : Int) := (HF.out 2 (by decide)).2
          have hb := gb_lt l 1
          go_wp2
          exact hJ _ _ _ (HV.out.step (by decide) (by decide)) (rfl) (by simp [setU, f2] <;> omega)
        · intro bb u w2 hv hbi hC hF J K hJ hK
          have HV := Lib.hid hv
          have HF := Lib.hid hF
          have HC := Lib.hid hC
          have HBI := Lib.hid hbi
          clear hv hF hC hbi
          go_wp2
          exact hJ _ _ _ (HV.out.step (by decide) (by decide)) (rfl) (by simp [setU] <;> omega)
        · intro bb u w2 hv hbi hC hF J K hJ hK
          have HV := Lib.hid hv
          have HF := Lib.hid hF
          have HC := Lib.hid hC
          have HBI := Lib.hid hbi
          clear hv hF hC hbi
          have f4 : u 4 = .slice (some ⟨b, o, none⟩) n c := (HF.out 4 (by decide)).2
          go_wp2
          exact hJ _ _ _ (HV.out.step (by decide) (by decide)) (rfl) (by simp [setU, f4] <;> omega)
        · intro bb u w2 hv hbi hC hF J K hJ hK
          have HV := Lib.hid hv
          have HF := Lib.hid hF
          have HC := Lib.hid hC
          have HBI := Lib.hid hbi
          clear hv hF hC hbi
          have f5 : u 5 = .pointer (some ⟨b, o + 2, none⟩) := (HF.out 5 (by decide)).2
          have q0 : w2.cell? ⟨b, o + 2, none⟩ = some (.int .u8 (gb l 2 : Int)) := (HV.out.1.cell (p := ⟨b, o + 2, none⟩) HLT.out).trans C2.out
          go_wp2
          exact hJ _ _ _ (HV.out.step (by decide) (by decide)) (rfl) (by simp [setU, f5] <;> omega)
        · intro bb u w2 hv hbi hC hF J K hJ hK
          have HV := Lib.hid hv
          have HF := Lib.hid hF
          have HC := Lib.hid hC
          have HBI := Lib.hid hbi
          clear hv hF hC hbi
          have f6 : u 6 = .int .u8 (gb l 2 : Int) := (HF.out 6 (by decide)).2
          have hb := gb_lt l 2
          go_wp2
          exact hJ _ _ _ (HV.out.step (by decide) (by decide)) (rfl) (by simp [setU, f6] <;> omega)
        · intro bb u w2 hv hbi hC hF J K hJ hK
          have HV := Lib.hid hv
          have HF := Lib.hid hF
          have HC := Lib.hid hC
          have HBI := Lib.hid hbi
          clear hv hF hC hbi
          go_wp2
          exact hJ _ _ _ (HV.out.step (by decide) (by decide)) (rfl) (by simp [setU] <;> omega)
        · intro bb u w2 hv hbi hC hF J K hJ hK
          have HV := Lib.hid hv
          have HF := Lib.hid hF
          have HC := Lib.hid hC
          have HBI := Lib.hid hbi
          clear hv hF hC hbi
          have f8 : u 8 = .slice (some ⟨b, o, none⟩) n c := (HF.out 8 (by decide)).2
          go_wp2
          exact hJ _ _ _ (HV.out.step (by decide) (by decide)) (rfl) (by simp [setU, f8] <;> omega)
        · intro bb u w2 hv hbi hC hF J K hJ hK
          have HV := Lib.hid hv
          have HF := Lib.hid hF
          have HC := Lib.hid hC
          have HBI := Lib.hid hbi
          clear hv hF hC hbi
          have f9 : u 9 = .pointer (some ⟨b, o + 3, none⟩) := (HF.out 9 (by decide)).2
          have q0 : w2.cell? ⟨b, o + 3, none⟩ = some (.int .u8 (gb l 3 : Int)) := (HV.out.1.cell (p := ⟨b, o + 3, none⟩) HLT.out).trans C3.out
          go_wp2
          exact hJ _ _ _ (HV.out.step (by decide) (by decide)) (rfl) (by simp [setU, f9] <;> omega)
        · intro bb u w2 hv hbi hC hF J K hJ hK
          have HV := Lib.hid hv
          have HF := Lib.hid hF
          have HC := Lib.hid hC
          have HBI := Lib.hid hbi
          clear hv hF hC hbi
          have f10 : u 10 = .int .u8 (gb l 3 : Int) := (HF.out 10 (by decide)).2
          have hb := gb_lt l 3
          go_wp2
          exact hJ _ _ _ (HV.out.step (by decide) (by decide)) (rfl) (by simp [setU, f10] <;> omega)
        · intro bb u w2 hv hbi hC hF J K hJ hK
          have HV := Lib.hid hv
          have HF := Lib.hid hF
          have HC := Lib.hid hC
          have HBI := Lib.hid hbi
          clear hv hF hC hbi
          go_wp2
          exact hJ _ _ _ (HV.out.step (by decide) (by decide)) (rfl) (by simp [setU] <;> omega)
        · intro bb u w2 hv hbi hC hF J K hJ hK
          have HV := Lib.hid hv
          have HF := Lib.hid hF
          have HC := Lib.hid hC
          have HBI := Lib.hid hbi
          clear hv hF hC hbi
          have f12 : u 12 = .slice (some ⟨b, o, none⟩) n c := (HF.out 12 (by decide)).2
          go_wp2
          exact hJ _ _ _ (HV.out.step (by decide) (by decide)) (rfl) (by simp [setU, f12] <;> omega)
        · intro bb u w2 hv hbi hC hF J K hJ hK
          have HV := Lib.hid hv
          have HF := Lib.hid hF
          have HC := Lib.hid hC
          have HBI := Lib.hid hbi
          clear hv hF hC hbi
          have f13 : u 13 = .slice (some ⟨b, o + 4, none⟩) 2 (c - 4) := (HF.out 13 (by decide)).2
          have HRN := Lib.hid (((HR5.out.ext HV.out.1).take 6).drop 4)
          go_wp2_with fail
          refine (rnum_n (some ⟨b, o + 4, none⟩) (c - 4) 2 _ (by rw [List.length_drop, List.length_take, HN.out]; omega) (by omega) w2 HRN.out).mono ?_
          rintro e w4 ⟨rfl, rfl⟩
          rw [num_two l 4 (by rw [HN.out]; omega)]
          go_wp2
          exact hJ _ _ _ (HV.out.step (by decide) (by decide)) (rfl) (by simp [setU, f13] <;> omega)
        · intro bb u w2 hv hbi hC hF J K hJ hK
          have HV := Lib.hid hv
          have HF := Lib.hid hF
          have HC := Lib.hid hC
          have HBI := Lib.hid hbi
          clear hv hF hC hbi
          go_wp2
          exact hJ _ _ _ (HV.out.step (by decide) (by decide)) (rfl) (by simp [setU] <;> omega)
        · intro bb u w2 hv hbi hC hF J K hJ hK
          have HV := Lib.hid hv
          have HF := Lib.hid hF
          have HC := Lib.hid hC
          have HBI := Lib.hid hbi
          clear hv hF hC hbi
          have f15 : u 15 = .slice (some ⟨b, o, none⟩) n c := (HF.out 15 (by decide)).2
          go_wp2
          exact hJ _ _ _ (HV.out.step (by decide) (by decide)) (rfl) (by simp [setU, f15] <;> omega)
        · intro bb u w2 hv hbi hC hF J K hJ hK
          have HV := Lib.hid hv
          have HF := Lib.hid hF
          have HC := Lib.hid hC
          have HBI := Lib.hid hbi
          clear hv hF hC hbi
          have f16 : u 16 = .slice (some ⟨b, o + 6, none⟩) 2 (c - 6) := (HF.out 16 (by decide)).2
          have HRN := Lib.hid (((HR5.out.ext HV.out.1).take 8).drop 6)
          go_wp2_with fail
          refine (rnum_n (some ⟨b, o + 6, none⟩) (c - 6) 2 _ (by rw [List.length_drop, List.length_take, HN.out]; omega) (by omega) w2 HRN.out).mono ?_
          rintro e w4 ⟨rfl, rfl⟩
          rw [num_two l 6 (by rw [HN.out]; omega)]
          go_wp2
          exact hJ _ _ _ (HV.out.step (by decide) (by decide)) (rfl) (by simp [setU, f16] <;> omega)
        · intro bb u w2 hv hbi hC hF J K hJ hK
          have HV := Lib.hid hv
          have HF := Lib.hid hF
          have HC := Lib.hid hC
          have HBI := Lib.hid hbi
          clear hv hF hC hbi
          go_wp2
          exact hJ _ _ _ (HV.out.step (by decide) (by decide)) (rfl) (by simp [setU] <;> omega)
        · intro bb u w2 hv hbi hC hF J K hJ hK
          have HV := Lib.hid hv
          have HF := Lib.hid hF
          have HC := Lib.hid hC
          have HBI := Lib.hid hbi
          clear hv hF hC hbi
          have f18 : u 18 = .slice (some ⟨b, o, none⟩) n c := (HF.out 18 (by decide)).2
          go_wp2
          exact hJ _ _ _ (HV.out.step (by decide) (by decide)) (rfl) (by simp [setU, f18] <;> omega)
        · intro bb u w2 hv hbi hC hF J K hJ hK
          have HV := Lib.hid hv
          have HF := Lib.hid hF
          have HC := Lib.hid hC
          have HBI := Lib.hid hbi
          clear hv hF hC hbi
          have f19 : u 19 = .slice (some ⟨b, o + 8, none⟩) 4 (c - 8) := (HF.out 19 (by decide)).2
          have HRN := Lib.hid (((HR5.out.ext HV.out.1).take 12).drop 8)
          go_wp2_with fail
          refine (rnum_n (some ⟨b, o + 8, none⟩) (c - 8) 4 _ (by rw [List.length_drop, List.length_take, HN.out]; omega) (by omega) w2 HRN.out).mono ?_
          rintro e w4 ⟨rfl, rfl⟩
          rw [num_four l 8 (by rw [HN.out]; omega)]
          go_wp2
          exact hJ _ _ _ (HV.out.step (by decide) (by decide)) (rfl) (by simp [setU, f19] <;> omega)
        · intro bb u w2 hv hbi hC hF J K hJ hK
          have HV := Lib.hid hv
          have HF := Lib.hid hF
          have HC := Lib.hid hC
          have HBI := Lib.hid hbi
          clear hv hF hC hbi
          have f20 : u 20 = .int .i64 (nb4 l 8 : Int) := (HF.out 20 (by decide)).2
          have hb := nb4_lt l 8
          go_wp2
          exact hJ _ _ _ (HV.out.step (by decide) (by decide)) (rfl) (by simp [setU, f20] <;> omega)
        · intro bb u w2 hv hbi hC hF J K hJ hK
          have HV := Lib.hid hv
          have HF := Lib.hid hF
          have HC := Lib.hid hC
          have HBI := Lib.hid hbi
          clear hv hF hC hbi
          go_wp2
          exact hJ _ _ _ (HV.out.step (by decide) (by decide)) (rfl) (by simp [setU] <;> omega)
        · intro bb u w2 hv hbi hC hF J K hJ hK
          have HV := Lib.hid hv
          have HF := Lib.hid hF
          have HC := Lib.hid hC
          have HBI := Lib.hid hbi
          clear hv hF hC hbi
          have f22 : u 22 = .slice (some ⟨b, o, none⟩) n c := (HF.out 22 (by decide)).2
          go_wp2
          exact hJ _ _ _ (HV.out.step (by decide) (by decide)) (rfl) (by simp [setU, f22] <;> omega)
        · intro bb u w2 hv hbi hC hF J K hJ hK
          have HV := Lib.hid hv
          have HF := Lib.hid hF
          have HC := Lib.hid hC
          have HBI := Lib.hid hbi
          clear hv hF hC hbi
          have f23 : u 23 = .slice (some ⟨b, o + 12, none⟩) 4 (c - 12) := (HF.out 23 (by decide)).2
          have HRN := Lib.hid (((HR5.out.ext HV.out.1).take 16).drop 12)
          go_wp2_with fail
          refine (rnum_n (some ⟨b, o + 12, none⟩) (c - 12) 4 _ (by rw [List.length_drop, List.length_take, HN.out]; omega) (by omega) w2 HRN.out).mono ?_
          rintro e w4 ⟨rfl, rfl⟩
          rw [num_four l 12 (by rw [HN.out]; omega)]
          go_wp2
          exact hJ _ _ _ (HV.out.step (by decide) (by decide)) (rfl) (by simp [setU, f23] <;> omega)
        · intro bb u w2 hv hbi hC hF J K hJ hK
          have HV := Lib.hid hv
          have HF := Lib.hid hF
          have HC := Lib.hid hC
          have HBI := Lib.hid hbi
          clear hv hF hC hbi
          have f24 : u 24 = .int .i64 (nb4 l 12 : Int) := (HF.out 24 (by decide)).2
          have hb := nb4_lt l 12
          go_wp2
          exact hJ _ _ _ (HV.out.step (by decide) (by decide)) (rfl) (by simp [setU, f24] <;> omega)
        · intro bb u w2 hv hbi hC hF J K hJ hK
          have HV := Lib.hid hv
          have HF := Lib.hid hF
          have HC := Lib.hid hC
          have HBI := Lib.hid hbi
          clear hv hF hC hbi
          go_wp2
          exact hJ _ _ _ (HV.out.step (by decide) (by decide)) (rfl) (by simp [setU] <;> omega)
        · intro bb u w2 hv hbi hC hF J K hJ hK
          have HV := Lib.hid hv
          have HF := Lib.hid hF
          have HC := Lib.hid hC
          have HBI := Lib.hid hbi
          clear hv hF hC hbi
          have f26 : u 26 = .slice (some ⟨b, o, none⟩) n c := (HF.out 26 (by decide)).2
          go_wp2
          exact hJ _ _ _ (HV.out.step (by decide) (by decide)) (rfl) (by simp [setU, f26] <;> omega)
        · intro bb u w2 hv hbi hC hF J K hJ hK
          have HV := Lib.hid hv
          have HF := Lib.hid hF
          have HC := Lib.hid hC
          have HBI := Lib.hid hbi
          clear hv hF hC hbi
          have f27 : u 27 = .slice (some ⟨b, o + 16, none⟩) 2 (c - 16) := (HF.out 27 (by decide)).2
          have HRN := Lib.hid (((HR5.out.ext HV.out.1).take 18).drop 16)
          go_wp2_with fail
          refine (rnum_n (some ⟨b, o + 16, none⟩) (c - 16) 2 _ (by rw [List.length_drop, List.length_take, HN.out]; omega) (by omega) w2 HRN.out).mono ?_
          rintro e w4 ⟨rfl, rfl⟩
          rw [num_two l 16 (by rw [HN.out]; omega)]
          go_wp2
          exact hJ _ _ _ (HV.out.step (by decide) (by decide)) (rfl) (by simp [setU, f27] <;> omega)
        · intro bb u w2 hv hbi hC hF J K hJ hK
          have HV := Lib.hid hv
          have HF := Lib.hid hF
          have HC := Lib.hid hC
          have HBI := Lib.hid hbi
          clear hv hF hC hbi
          have f3 : u 3 = .int .i64 (gb l 1 : Int) := (HF.out 3 (by decide)).2
          have f7 : u 7 = .int .i64 (gb l 2 : Int) := (HF.out 7 (by decide)).2
          have f11 : u 11 = .int .i64 (gb l 3 : Int) := (HF.out 11 (by decide)).2
          have f14 : u 14 = .int .i64 (nb2 l 4 : Int) := (HF.out 14 (by decide)).2
          have f17 : u 17 = .int .i64 (nb2 l 6 : Int) := (HF.out 17 (by decide)).2
          have f21 : u 21 = .int .u32 (nb4 l 8 : Int) := (HF.out 21 (by decide)).2
          have f25 : u 25 = .int .u32 (nb4 l 12 : Int) := (HF.out 25 (by decide)).2
          have f28 : u 28 = .int .i64 (nb2 l 16 : Int) := (HF.out 28 (by decide)).2
          go_wp2
          exact hJ _ _ _ (HV.out.step (by decide) (by decide)) (rfl) (by simp [setU, baseCs, f3, f7, f11, f14, f17, f21, f25, f28] <;> omega)
        · intro bb u w2 hv hbi hC hF J K hJ hK
          have HV := Lib.hid hv
          have HF := Lib.hid hF
          have HC := Lib.hid hC
          have HBI := Lib.hid hbi
          clear hv hF hC hbi
          have n31 : bb 31 = false := by cases h : bb 31 with | false => rfl | true => exact absurd (HC.out 31 30 (by decide) h) (by rw [HBI.out]; decide)
          have hsz := HV.out.zero n31 HBI.out
          have HI := Lib.hid (HV.out.made n31 HBI.out)
          go_wp2
          exact hJ _ _ _ (HI.out) (rfl) (by simp [setU] <;> omega)
        · intro bb u w2 hv hbi hC hF J K hJ hK
          have HV := Lib.hid hv
          have HF := Lib.hid hF
          have HC := Lib.hid hC
          have HBI := Lib.hid hbi
          clear hv hF hC hbi
          have f29 : u 29 = .agg (baseCs l).toArray := (HF.out 29 (by decide)).2
          have f30 : u 30 = .pointer (some ⟨w5.heap.size, 0, none⟩) := (HF.out 30 (by decide)).2
          have p30 : bb 30 = true := (HF.out 30 (by decide)).1
          have hK := Lib.hid (HV.out.mid HBI.out p30)
          dsimp only
          rw [f29, f30]
          go_wp2_with ((with_reducible refine (?_ : wpList _ _ _ [_] _ _)); refine wpList_store_bk rfl 25 _ _ rfl w5.heap.size (baseCs l) rfl rfl 25 _ hK.out (infoP _ rfl) rfl (one_base l) ?_)
          intro w3 hk3 hg3 _
          have HI := Lib.hid (HV.out.fill hk3 hg3)
          clear hk3 hg3 hK p30
          go_wp2
          exact hJ undef _ _ (HI.out) (trivial) (by simp [setU, f29, f30] <;> omega)
      · intro bb u w2 hb hv hF
        have HV := Lib.hid hv
        have HBB := Lib.hid hb
        have f30 : u 30 = .pointer (some ⟨w5.heap.size, 0, none⟩) := hF 30 (by decide)
        clear hv hb hF
        have hK := HV.out.done (HBB.out 31 (by decide))
        have hb6 := HV.out.1
        dsimp only
        rw [f30]
        generalize u = urg at *
        obtain ⟨w6, rfl⟩ : ∃ w6, w6 = w2 := ⟨_, rfl⟩
        obtain ⟨k1, hk1⟩ : ∃ k, w5.heap.size = k := ⟨_, rfl⟩
        have HG6 : Hid (BK w6 k0 25 zeroCs) := Lib.hid (BK.ext HG2.out hb6)
        have HR6 := Lib.hid (HR5.out.ext hb6)
        have HB6 : Hid (Below k0 w w6) := Lib.hid ((HK0.out ▸ HB2.out : Below k0 w w5).trans (hb6.mono (by omega)))
        rw [hk1] at hK hl2 ⊢
        have HK6 := Lib.hid hK
        have hro := (HR6.out.take e).drop 22
        rw [HOPT.out] at hro
        have hrd := HR6.out.drop e
        rw [HDT.out] at hrd
        have HROP := Lib.hid hro
        have HRDT := Lib.hid hrd
        have hbk : b ≠ k1 := by omega
        have hk6 : k0 ≤ w6.heap.size := by have := HB6.out.size; rw [HK0.out] at this; exact this
        clear hk1 hK hb6 HV HBB hro hrd HG2 HB2 HR5 HLT f30 C1 C2 C3
        have HDL0' := HDL0.out
        go_upto_region 10 with fail
        go_cut [79] from 75 to 80 (fun v wc => Hid (GCut w k0 k1 b o dl l data wc))
        case first =>
          by_cases hcx : c = e
          · have hd0 : dl = 0 := by omega
            have hnx : n = e := by omega
            subst hcx hnx hd0
            clear HDL0'
            have HRD : Hid (RB w6 (some ⟨b, o, none⟩) data) := Lib.hid (by rw [List.eq_nil_of_length_eq_zero HDL.out]; exact RB.nil _ _)
            have HX : Hid (Below k0 w (w6.alloc (.cells #[] 5))) := Lib.hid (HB6.out.alloc hk6 _)
            have HXO : Hid (OwnB w6.heap.size 5 (w6.alloc (.cells #[] 5)) (.slice (some ⟨w6.heap.size, 0, none⟩) 0 0) []) := Lib.hid (OwnB.lit' w6.heap.size 5 w6 [] w6.heap.size 0 (Nat.le_refl _) (by simp [maxLen]) rfl rfl)
            have HRX := Lib.hid (HRD.out.ext (ext_alloc w6 (.cells #[] 5)))
            go_wp2_with ((with_reducible refine (?_ : wpList _ _ _ (_ :: _) _ _)); at_builtin; refine wpList_appB rfl _ _ 23 rfl w6.heap.size 5 Try.underlying23 infoB _ [] rfl HXO.out _ _ _ data rfl (by have := HDL.out; omega) HRX.out (by simp [HDL.out] <;> omega) (by simp) ?_)
            intro v7 w7 ho7 hg7 _
            have ho7 : OwnB w6.heap.size 5 w7 v7 data := by simpa using ho7
            have hb7 : Below w6.heap.size w6 w7 := HXO.out.below (ext_alloc w6 (.cells #[] 5)) hg7 (by simp)
            obtain ⟨R, d, rfl, _, _, hoo7, hd⟩ := (OwnV.of ho7 HDL.out).get
            have HO7 := Lib.hid hoo7
            have HB7 := Lib.hid hb7
            have HK7 := Lib.hid (HK6.out.ext hb7)
            have HG7 := Lib.hid (HG6.out.ext hb7)
            have k10 := HK7.out.cell (i := 10) rfl
            have f10 := HK7.out.frozen 10
            clear hg7 ho7 hb7 hoo7 HXO HX HRX HRD
            go_wp2_with fail
            go_meet
            case rel =>
              have hgr := grown_setCell w7 k1 10 (.slice R 0 d)
              exact Lib.hid ⟨R, d, hd, (HO7.out.other hgr (.inr (own_ne_bk HO7.out HK7.out (by decide)))).mono hk6, HK7.out.set 10 _, HG7.out.same (hgr.block k0 HG7.out.lt (fun e => by have := Option.some.inj e; omega)), (HR6.out.ext HB7.out).grown hgr (fun _ _ _ e => by cases e; exact hbk), below_grown (HB6.out.trans (HB7.out.mono hk6)) hgr (by have := HB7.out.size; omega) (by omega)⟩
          · skip
            have HRD : Hid (RB w6 (some ⟨b, o + e, none⟩) data) := Lib.hid (HRDT.out)
            have HX : Hid (Below k0 w (w6.alloc (.cells #[] 5))) := Lib.hid (HB6.out.alloc hk6 _)
            have HXO : Hid (OwnB w6.heap.size 5 (w6.alloc (.cells #[] 5)) (.slice (some ⟨w6.heap.size, 0, none⟩) 0 0) []) := Lib.hid (OwnB.lit' w6.heap.size 5 w6 [] w6.heap.size 0 (Nat.le_refl _) (by simp [maxLen]) rfl rfl)
            have HRX := Lib.hid (HRD.out.ext (ext_alloc w6 (.cells #[] 5)))
            go_wp2_with ((with_reducible refine (?_ : wpList _ _ _ (_ :: _) _ _)); at_builtin; refine wpList_appB rfl _ _ 23 rfl w6.heap.size 5 Try.underlying23 infoB _ [] rfl HXO.out _ _ _ data rfl (by have := HDL.out; omega) HRX.out (by simp [HDL.out] <;> omega) (by simp) ?_)
            intro v7 w7 ho7 hg7 _
            have ho7 : OwnB w6.heap.size 5 w7 v7 data := by simpa using ho7
            have hb7 : Below w6.heap.size w6 w7 := HXO.out.below (ext_alloc w6 (.cells #[] 5)) hg7 (by simp)
            obtain ⟨R, d, rfl, _, _, hoo7, hd⟩ := (OwnV.of ho7 HDL.out).get
            have HO7 := Lib.hid hoo7
            have HB7 := Lib.hid hb7
            have HK7 := Lib.hid (HK6.out.ext hb7)
            have HG7 := Lib.hid (HG6.out.ext hb7)
            have k10 := HK7.out.cell (i := 10) rfl
            have f10 := HK7.out.frozen 10
            clear hg7 ho7 hb7 hoo7 HXO HX HRX HRD
            go_wp2_with fail
            go_meet
            case rel =>
              have hgr := grown_setCell w7 k1 10 (.slice R dl d)
              exact Lib.hid ⟨R, d, hd, (HO7.out.other hgr (.inr (own_ne_bk HO7.out HK7.out (by decide)))).mono hk6, HK7.out.set 10 _, HG7.out.same (hgr.block k0 HG7.out.lt (fun e => by have := Option.some.inj e; omega)), (HR6.out.ext HB7.out).grown hgr (fun _ _ _ e => by cases e; exact hbk), below_grown (HB6.out.trans (HB7.out.mono hk6)) hgr (by have := HB7.out.size; omega) (by omega)⟩
        case rest =>
          obtain ⟨R, d, hd, hO, hK, hG, hR, hB⟩ := hcut.out
          have HO8 := Lib.hid hO
          have HK8 := Lib.hid hK
          have HG8 := Lib.hid hG
          have HR8 := Lib.hid hR
          have HB8 := Lib.hid hB
          clear HDL0' hcut hO hK hG hR hB HK6 HG6 HR6 HB6 HROP HRDT
          go_upto_region 11 with fail
          go_cut [7] from 81 to 83 (fun v w3 => w3 = wc ∧ Hid (∃ O cO, v = .slice O x cO ∧ x ≤ cO ∧ Off k1 O ∧ RB wc O opt))
          case first =>
            by_cases hc22 : c = 22
            · have hn22 : n = 22 := by omega
              have hx0 : e = 22 := by omega
              subst hc22 hn22 hx0
              obtain rfl : x = 0 := HEX.out
              go_wp2_with fail
              go_meet
              case rel => exact ⟨rfl, Lib.hid ⟨_, _, rfl, Nat.le_refl _, (fun _ _ e => by cases e; exact hbk), by rw [List.eq_nil_of_length_eq_zero HOL.out]; exact RB.nil _ _⟩⟩
            · have hro := (HR8.out.take e).drop 22
              rw [HOPT.out] at hro
              have HRO := Lib.hid hro
              have hx9 : e - 22 = x := by omega
              clear hro
              go_wp2_with fail
              go_meet
              case rel => exact ⟨rfl, Lib.hid ⟨_, _, rfl, by omega, (fun _ _ e => by cases e; exact hbk), HRO.out⟩⟩
          case rest =>
            obtain ⟨hw3, hcut2⟩ := hcut
            subst hw3
            obtain ⟨O, cO, rfl, hxO, hoff, hro⟩ := hcut2.out
            have HF8 : Hid (GFin w k0 k1 b o dl l opt data R d O 0 0 wc) := Lib.hid ⟨HO8.out, HK8.out, HG8.out, HR8.out, HB8.out, hro⟩
            have HROX := Lib.hid hro
            have HOFF : Hid (0 < opt.length → Off k1 O) := Lib.hid fun _ => hoff
            clear hoff
            clear hro hcut2 HO8 HK8 HG8 HR8 HB8
            go_upto_region 12 with fail
            go_cut [91] from 84 to 91 (fun v w3 => (∃ q : Bool, v = .bool q ∧ Hid (IffB q (x = 10 ∨ x = 14))) ∧ w3 = wc)
            case first =>
              by_cases h10 : x = 10
              · have e1 : ((x : Int) == 10) = true := beq_iff_eq.2 (by omega)
                have E9 : Hid (IffB true (x = 10 ∨ x = 14)) := Lib.hid (by simp [IffB, h10])
                clear h10
                go_wp2_with fail
                go_meet
                case rel => exact ⟨⟨true, rfl, E9⟩, rfl⟩
              · have e1 : ((x : Int) == 10) = false := beq_eq_false_iff_ne.2 (by omega)
                by_cases h14 : x = 14
                · have e2 : ((x : Int) == 14) = true := beq_iff_eq.2 (by omega)
                  have E9 : Hid (IffB true (x = 10 ∨ x = 14)) := Lib.hid (by simp [IffB, h14])
                  clear h10 h14
                  go_wp2_with fail
                  go_meet
                  case rel => exact ⟨⟨true, rfl, E9⟩, rfl⟩
                · have e2 : ((x : Int) == 14) = false := beq_eq_false_iff_ne.2 (by omega)
                  have E9 : Hid (IffB false (x = 10 ∨ x = 14)) := Lib.hid (by simp [IffB, h10, h14])
                  clear h10 h14
                  go_wp2_with fail
                  go_meet
                  case rel => exact ⟨⟨false, rfl, E9⟩, rfl⟩
            case rest =>
              obtain ⟨⟨q, rfl, HQ⟩, hw4⟩ := hcut
              subst hw4
              go_upto_if 91 with fail
              go_cut [100] from 92 to 100 (fun _ w4 => Hid (0 ≤ prR opt ∧ GFin w k0 k1 b o dl l opt data R d O (prR opt) 0 w4))
              case first =>
                cases q with
                | false =>
                  have HPR : Hid (prR opt = 0) := Lib.hid (by
                    unfold prR
                    rw [HOL.out, if_neg (fun h => by have := HQ.out.2 h; cases this)])
                  go_wp2_with fail
                  go_meet
                  case rel => exact Lib.hid (by rw [HPR.out]; exact ⟨Int.le_refl _, HF8.out⟩)
                | true =>
                  have hx10 := HQ.out.1 rfl
                  have hx10' : 10 ≤ x := by omega
                  obtain ⟨b', o', rfl, _⟩ := HROX.out.form (by rw [HOL.out]; omega)
                  have HNM := Lib.hid ((HROX.out.take 10).drop 2)
                  have HPR : Hid (numL ((opt.take 10).drop 2) 8 = prR opt) := Lib.hid (by unfold prR; rw [HOL.out, if_pos hx10])
                  have HNL : Hid (((opt.take 10).drop 2).length = 8) := Lib.hid (by rw [List.length_drop, List.length_take, HOL.out]; omega)
                  obtain ⟨pr, hpr⟩ : ∃ pr, prR opt = pr := ⟨_, rfl⟩
                  rw [hpr] at HPR
                  have HPRE := Lib.hid hpr
                  clear hpr
                  clear hx10
                  go_wp2_with fail
                  refine (rnum_n (some ⟨b', o' + 2, none⟩) (cO - 2) 8 _ HNL.out (by omega) wc HNM.out).mono ?_
                  rintro e1 w1 ⟨rfl, rfl⟩
                  rw [HPR.out]
                  by_cases hneg : pr < 0
                  · go_wp2_with ((with_reducible refine (?_ : wpList _ _ _ (_ :: _) _ _)); refine wpList_store_bk rfl 25 _ _ rfl k0 zeroCs rfl rfl 25 _ HF8.out.2.2.1 (infoP _ rfl) rfl one_zero ?_)
                    intro wz hkz hgz _
                    have HKZ := Lib.hid hkz
                    have HBZ := Lib.hid (below_grown HF8.out.2.2.2.2.1 hgz (by have := HF8.out.2.2.1.lt; omega) (Nat.le_refl _))
                    clear hkz hgz
                    go_wp2_with fail
                    refine bodyPost_ret (results_ct rfl _ _ k0 25 _ (0, 0) _ rfl HKZ.out Try.underlying25 rfl (infoP _ rfl)) rfl ?_
                    exact Got.zero (by rw [HK0.out]; exact HBZ.out) ((HGP.out opt data _ HOPT.out HDT.out rfl).2.2 (by rw [HDL.out]; omega) (fun e => by
                      rw [candR_neg l opt data _ (by rw [HPRE.out]; exact hneg)] at e
                      exact Bool.noConfusion e.1))
                  · have k8 := HF8.out.2.1.cell (i := 8) rfl
                    have f8 := HF8.out.2.1.frozen 8
                    go_wp2_with fail
                    refine (rnum_n (some ⟨b', o' + 2, none⟩) (cO - 2) 8 _ HNL.out (by omega) wc HNM.out).mono ?_
                    rintro e2 w2 ⟨rfl, rfl⟩
                    rw [HPR.out]
                    go_wp2_with fail
                    go_meet
                    case rel => exact Lib.hid (by rw [HPRE.out]; exact ⟨by omega, HF8.out.set hl2 hbk HOFF.out 8 _ _ _ (set8_PO _ _ _ _ _ _ _ _)⟩)
              case rest =>
                obtain ⟨hpr0, hf9⟩ := hcut.out
                obtain ⟨pr, hpr⟩ : ∃ pr, prR opt = pr := ⟨_, rfl⟩
                rw [hpr] at hf9 hpr0
                have HPRE := Lib.hid hpr
                have HF9 := Lib.hid hf9
                clear hcut hf9 hpr HF8 HROX HQ
                obtain ⟨w9, rfl⟩ : ∃ w9, w9 = wc := ⟨_, rfl⟩
                go_upto_region 16 with fail
                go_cut [108] from 101 to 108 (fun v w3 => (∃ q : Bool, v = .bool q ∧ Hid (IffB q (x = 4 ∨ x = 14))) ∧ w3 = w9)
                case first =>
                  by_cases h10 : x = 4
                  · have e1 : ((x : Int) == 4) = true := beq_iff_eq.2 (by omega)
                    have E9 : Hid (IffB true (x = 4 ∨ x = 14)) := Lib.hid (by simp [IffB, h10])
                    clear h10
                    go_wp2_with fail
                    go_meet
                    case rel => exact ⟨⟨true, rfl, E9⟩, rfl⟩
                  · have e1 : ((x : Int) == 4) = false := beq_eq_false_iff_ne.2 (by omega)
                    by_cases h14 : x = 14
                    · have e2 : ((x : Int) == 14) = true := beq_iff_eq.2 (by omega)
                      have E9 : Hid (IffB true (x = 4 ∨ x = 14)) := Lib.hid (by simp [IffB, h14])
                      clear h10 h14
                      go_wp2_with fail
                      go_meet
                      case rel => exact ⟨⟨true, rfl, E9⟩, rfl⟩
                    · have e2 : ((x : Int) == 14) = false := beq_eq_false_iff_ne.2 (by omega)
                      have E9 : Hid (IffB false (x = 4 ∨ x = 14)) := Lib.hid (by simp [IffB, h10, h14])
                      clear h10 h14
                      go_wp2_with fail
                      go_meet
                      case rel => exact ⟨⟨false, rfl, E9⟩, rfl⟩
                case rest =>
                  obtain ⟨⟨q2, rfl, HQ⟩, hw4⟩ := hcut
                  obtain rfl : w9 = wc := hw4.symm
                  go_upto_if 108 with fail
                  go_cut [115] from 109 to 115 (fun _ w4 => Hid (GFin w k0 k1 b o dl l opt data R d O pr (ogR opt : Int) w4))
                  case first =>
                    cases q2 with
                    | false =>
                      have HOG : Hid (ogR opt = 0) := Lib.hid (by
                        unfold ogR
                        rw [HOL.out, if_neg (fun h => by have := HQ.out.2 h; cases this)])
                      go_wp2_with fail
                      go_meet
                      case rel => exact Lib.hid (by rw [HOG.out]; exact HF9.out)
                    | true =>
                      have hx10 := HQ.out.1 rfl
                      obtain ⟨x2, hx2⟩ : ∃ x2, x = x2 + 2 := ⟨x - 2, by omega⟩
                      have hx2i : (x : Int) - 2 = (x2 : Int) := by omega
                      have hx2a : x2 ≤ x := by omega
                      have hx2b : x - x2 = 2 := by omega
                      have hx2c : x2 < cO := by omega
                      obtain ⟨b', o', rfl, _⟩ := HF9.out.2.2.2.2.2.form (by rw [HOL.out]; omega)
                      have HNM := Lib.hid (HF9.out.2.2.2.2.2.drop x2)
                      have HOG : Hid (ogR opt = nb2 opt x2) := Lib.hid (by unfold ogR; rw [HOL.out, if_pos hx10, show x - 2 = x2 by omega])
                      have HNL : Hid ((opt.drop x2).length = 2) := Lib.hid (by rw [List.length_drop, HOL.out]; omega)
                      have HNE : Hid (numL (opt.drop x2) 2 = (nb2 opt x2 : Int)) := Lib.hid (by rw [numL_two]; unfold nb2; rw [gb_drop, gb_drop]; rfl)
                      have k9 := HF9.out.2.1.cell (i := 9) rfl
                      have f9 := HF9.out.2.1.frozen 9
                      clear hx10 hx2
                      go_wp2_with fail
                      refine (rnum_n (some ⟨b', o' + x2, none⟩) (cO - x2) 2 _ HNL.out (by omega) w9 HNM.out).mono ?_
                      rintro e2 w2 ⟨rfl, rfl⟩
                      rw [HNE.out]
                      go_wp2_with fail
                      go_meet
                      case rel => exact Lib.hid (by rw [HOG.out]; exact HF9.out.set hl2 hbk HOFF.out 9 _ _ _ (set9_PO _ _ _ _ _ _ _ _))
                  case rest =>
                    have hf := hcut.out
                    rw [← HPRE.out, show GFin w k0 k1 b o dl l opt data R d O (prR opt) (ogR opt : Int) wc = (OwnB k0 5 wc (.slice R dl d) data ∧ BK wc k1 25 ((candR l opt data).cs R dl d) ∧ BK wc k0 25 zeroCs ∧ RB wc (some ⟨b, o, none⟩) l ∧ Below k0 w wc ∧ RB wc O opt) from rfl] at hf
                    have hPq : (candR l opt data).seq < 4294967296 := nb4_lt l 8
                    have hPa : (candR l opt data).ack < 4294967296 := nb4_lt l 12
                    have hPd : (candR l opt data).data = data := rfl
                    obtain ⟨P, hP⟩ : ∃ P, candR l opt data = P := ⟨_, rfl⟩
                    rw [hP] at hf hPq hPa hPd
                    obtain ⟨ho, hk, hg, hr, hb, _⟩ := hf
                    have hgp := HGP.out opt data P HOPT.out HDT.out hP
                    rw [HDL.out] at hgp
                    have HG1 : Hid (okN P dl = true → putP P = l → getP l = (P, 0)) := Lib.hid hgp.2.1
                    have HG2 : Hid (¬ (okN P dl = true ∧ putP P = l) → getP l = (Pk.zero, 20)) := Lib.hid (hgp.2.2 (by omega))
                    have HPD : Hid (P.data = data) := Lib.hid hPd
                    have HPL : Hid (P.data.length = dl) := Lib.hid (by rw [hPd]; exact HDL.out)
                    have HPQ := Lib.hid hPq
                    have HPA := Lib.hid hPa
                    have HO := Lib.hid ho
                    have HK := Lib.hid hk
                    have HG := Lib.hid hg
                    have HR := Lib.hid hr
                    have HB := Lib.hid hb
                    have hrd : RB wc R P.data := by
                      obtain ⟨_, _, e1, hr1, _⟩ := ho.form
                      injection e1 with ea
                      rw [hPd, ea]
                      exact hr1
                    have HRD := Lib.hid hrd
                    have HL11 : Hid ((P.cs R dl d).length = 11) := Lib.hid rfl
                    have hwk : k0 ≤ wc.heap.size := by have := hg.lt; omega
                    clear hcut HF9 hPq hPa hPd hP ho hk hg hr hb hrd hgp HGP HOPT HDT HPRE HQ
                    by_cases hok : okN P dl = true
                    · have HOK := Lib.hid hok
                      clear hok
                      go_wp2_with ((with_reducible refine (?_ : wpList _ _ _ (_ :: _) _ _)); refine wpList_load_row rfl 25 _ rfl k1 rfl 25 (P.cs R dl d).toArray (0, 0) _ HK.out Try.underlying25 rfl (infoP _ HL11.out) ?_)
                      refine (rput_good P R dl d HPL.out wc HRD.out hd HPQ.out HPA.out HOK.out).mono ?_
                      rintro e1 w6' ⟨Rp, mp, cp, rfl, hmp, hop, hb6⟩
                      have HR6 := Lib.hid (HR.out.ext hb6)
                      have HG6 := Lib.hid (HG.out.ext hb6)
                      have HK6 := Lib.hid (HK.out.ext hb6)
                      have HO6 := Lib.hid (HO.out.ext hb6)
                      have HB6 := Lib.hid (HB.out.trans (hb6.mono hwk))
                      have hwk6 : k0 ≤ w6'.heap.size := Nat.le_trans hwk hb6.size
                      obtain ⟨_, _, ep, hrp, _, _⟩ := hop.form
                      injection ep with e1 e2 e3
                      subst e1 e3
                      have cv1 := conv_str (P := Try.prog) Try.underlying23 Try.underlying5 Try.underlying9 hrp mp cp hmp
                      have cv2 := conv_str (P := Try.prog) Try.underlying23 Try.underlying5 Try.underlying9 HR6.out n c HN.out.symm
                      by_cases hpl : putP P = l
                      · have HPLL := Lib.hid hpl
                        rw [hpl] at cv1
                        clear hpl hrp hop hb6 hmp e2
                        go_wp2_with first | ((with_reducible refine (?_ : wpList _ _ _ (_ :: _) _ _)); refine wpList_load_row rfl 25 _ rfl k1 rfl 25 (P.cs R dl d).toArray (0, 0) _ HK6.out Try.underlying25 rfl (infoP _ HL11.out) ?_) | ((with_reducible refine (?_ : wpList _ _ _ (_ :: _) _ _)); refine wpList_store_bk rfl 25 _ _ rfl k0 (P.cs R dl d) rfl rfl 25 _ HG6.out (infoP _ HL11.out) rfl (one_cs _ _ _ _) ?_)
                        intro wz hkz hgz _
                        have HKZ := Lib.hid hkz
                        have HBZ := Lib.hid (below_grown HB6.out hgz hwk6 (Nat.le_refl _))
                        have HOZ := Lib.hid (HO6.out.other hgz (.inr (own_ne_bk HO6.out HG6.out (by decide))))
                        clear hkz hgz cv1 cv2
                        go_wp2_with fail
                        refine bodyPost_ret (results_ct rfl _ _ k0 25 _ (0, 0) _ rfl HKZ.out Try.underlying25 rfl (infoP _ HL11.out)) rfl ?_
                        exact Got.ok (by rw [HK0.out]; exact HBZ.out) (HG1.out HOK.out HPLL.out) HPL.out hd (by rw [HPD.out, HK0.out]; exact HOZ.out)
                      · have hpl2 : ((strB (putP P)).toList == (strB l).toList) = false := by rw [strB_toList, strB_toList]; exact beq_eq_false_iff_ne.2 hpl
                        have HPLL := Lib.hid hpl
                        clear hpl hrp hop hb6 hmp e2
                        go_wp2_with ((with_reducible refine (?_ : wpList _ _ _ (_ :: _) _ _)); refine wpList_store_bk rfl 25 _ _ rfl k0 zeroCs rfl rfl 25 _ HG6.out (infoP _ rfl) rfl one_zero ?_)
                        intro wz hkz hgz _
                        have HKZ := Lib.hid hkz
                        have HBZ := Lib.hid (below_grown HB6.out hgz hwk6 (Nat.le_refl _))
                        clear hkz hgz
                        go_wp2_with fail
                        refine bodyPost_ret (results_ct rfl _ _ k0 25 _ (0, 0) _ rfl HKZ.out Try.underlying25 rfl (infoP _ rfl)) rfl ?_
                        exact Got.zero (by rw [HK0.out]; exact HBZ.out) (HG2.out (fun e => HPLL.out e.2))
                    · have HOK : Hid (okN P dl = false) := Lib.hid (by simpa using hok)
                      clear hok
                      go_wp2_with ((with_reducible refine (?_ : wpList _ _ _ (_ :: _) _ _)); refine wpList_load_row rfl 25 _ rfl k1 rfl 25 (P.cs R dl d).toArray (0, 0) _ HK.out Try.underlying25 rfl (infoP _ HL11.out) ?_)
                      refine (rput_bad P R dl d (by omega) wc HOK.out).mono ?_
                      rintro e1 w6' ⟨rfl, hb6⟩
                      have HG6 := Lib.hid (HG.out.ext hb6)
                      have HB6 := Lib.hid (HB.out.trans (hb6.mono hwk))
                      have hwk6 : k0 ≤ w6'.heap.size := Nat.le_trans hwk hb6.size
                      clear hb6
                      go_wp2_with ((with_reducible refine (?_ : wpList _ _ _ (_ :: _) _ _)); refine wpList_store_bk rfl 25 _ _ rfl k0 zeroCs rfl rfl 25 _ HG6.out (infoP _ rfl) rfl one_zero ?_)
                      intro wz hkz hgz _
                      have HKZ := Lib.hid hkz
                      have HBZ := Lib.hid (below_grown HB6.out hgz hwk6 (Nat.le_refl _))
                      clear hkz hgz
                      go_wp2_with fail
                      refine bodyPost_ret (results_ct rfl _ _ k0 25 _ (0, 0) _ rfl HKZ.out Try.underlying25 rfl (infoP _ rfl)) rfl ?_
                      exact Got.zero (by rw [HK0.out]; exact HBZ.out) (HG2.out (fun e => by rw [HOK.out] at e; exact Bool.noConfusion e.1))
theorem rget_calls (A : Option Addr) (c n : Nat) (l : List UInt8) (hn : l.length = n) (w : World) (h : RB w A l) (hc : n ≤ c) (hcm : c ≤ 9223372036854775807) (hl : n ≤ 100000) :
    Calls Try.prog 28 #[.slice A n c] w (Got w l) := by
  by_cases hs : n < 22 ∨ n < 22 + gb l 20
  · refine (rget_short A c n l hn w h hs).mono ?_
    rintro e w' ⟨rfl, hb⟩
    exact Got.zero hb (by unfold getP; rw [if_pos (by rw [hn]; exact hs)])
  · by_cases hv : inetN [l] = 65535 ∨ inetN [l] = 0
    · exact rget_main A c n l hn w h hc hcm hl (by omega) (by omega) hv
    · refine (rget_sum A c n l hn w h hc hl (by omega) (by omega) hv).mono ?_
      rintro e w' ⟨rfl, hb⟩
      exact Got.zero hb (by unfold getP; rw [if_neg (by rw [hn]; exact hs), if_pos hv])
end Go.Proofs.Ytobkelpeenckeaa
