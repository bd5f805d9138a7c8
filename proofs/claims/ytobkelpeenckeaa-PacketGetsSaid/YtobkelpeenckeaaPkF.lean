/- packet: Get: the walk. -/
import Derived.Test.YtobkelpeenckeaaPkE
import Derived.Laws.ResultCell
namespace Go.Proofs.Ytobkelpeenckeaa
open Go.RowKit
set_option linter.unusedVariables false
set_option linter.unusedSimpArgs false

theorem results_ct {P : Program} {fn : Func} {p u : Tmp} {ty : TypeId} (h : fn.results = #[.cell p ty, .tmp u]) (tmps : Array Value) (w : World) (g : Nat) (t : TypeId) (cs : Array Value) (fr : Nat × Nat) (d : TypeDesc)
    (hp : tmps.getD p undef = .pointer (some ⟨g, 0, none⟩)) (hg : w.heap[g]? = some (.cells cs t fr))
    (hu : P.underlying ty = some d) (hd : (match d with | .struct _ | .array _ _ => true | _ => false) = true) (hi : (P.info? ty).map (·.size) = some cs.size) :
    (results fn tmps).run P w = .ok (.tuple #[.agg cs, tmps.getD u undef]) w := by
  rw [results_cell_tmp h tmps P w, hp]
  simp [asAddr, run_loadVar_row w g t ty cs fr d hg hu hd hi, Result.andThen]
theorem infoP (cs : List Value) (h : cs.length = 11) : (Try.prog.info? 25).map (·.size) = some cs.toArray.size := by
  rw [show cs.toArray.size = 11 by simp [h]]
  kernel_rfl
/-- The cells of a packet of noughts. -/
def zeroCs : List Value := [.int .i64 0, .int .i64 0, .int .i64 0, .int .i64 0, .int .u32 0, .int .u32 0, .int .i64 0, .int .i64 0, .int .i64 0, .int .i64 0, .slice none 0 0]
theorem zeroCs_cs : Pk.zero.cs none 0 0 = zeroCs := rfl
theorem one_zero : zeroCs.toArray.all (·.oneCell') = true := by simp [zeroCs, Value.oneCell']
theorem zero_new (w : World) : (w.alloc (.cells zeroCs.toArray 25)).heap[w.heap.size]? = some (.cells zeroCs.toArray 25 (0, 0)) := heap_new w _ rfl

set_option maxRecDepth 100000 in
set_option maxHeartbeats 2000000 in
theorem get_short (A : Option Addr) (c n : Nat) (l : List UInt8) (hn : l.length = n) (w : World) (h : RB w A l) (hs : n < 22 ∨ n < 22 + gb l 20) :
    Calls Try.prog 16 #[.slice A n c] w fun e w' => e = .returned (.tuple #[.agg zeroCs.toArray, .int .i64 2]) ∧ Below w.heap.size w w' := by
  have H := Lib.hid h
  have HN := Lib.hid hn
  clear h hn
  by_cases h22 : n < 22
  · clear hs
    go_enter Try.func16, Try.ntmps16
    go_wp2_with fail
    refine bodyPost_ret (results_ct rfl _ _ w.heap.size 25 _ (0, 0) _ rfl (zero_new w) Try.underlying25 rfl (infoP _ rfl)) rfl ?_
    exact ⟨rfl, ext_alloc _ _⟩
  · obtain ⟨b, o, rfl, hcl⟩ := H.out.form (by rw [HN.out]; omega)
    have c20 := hcl 20 (by rw [HN.out]; omega)
    have c20' := (ext_alloc w (.cells zeroCs.toArray 25)).cell (p := ⟨b, o + 20, none⟩) (World.block_lt_of_cell? w _ c20)
    have h20 : n < 22 + gb l 20 := by omega
    obtain ⟨x, hx⟩ : ∃ x, gb l 20 = x := ⟨_, rfl⟩
    rw [hx] at c20 h20
    rw [c20] at c20'
    have hx8 := gb_lt l 20
    rw [hx] at hx8
    simp only [zeroCs] at c20'
    clear hcl hs hx c20
    go_enter Try.func16, Try.ntmps16
    go_wp2_with fail
    refine bodyPost_ret (results_ct rfl _ _ w.heap.size 25 _ (0, 0) _ rfl (zero_new w) Try.underlying25 rfl (infoP _ rfl)) rfl ?_
    exact ⟨rfl, ext_alloc _ _⟩
/-- The world with the place of the result. -/
theorem valid_one (A : Option Addr) (c n : Nat) (l : List UInt8) (hn : l.length = n) (V : Bool) (hV : decide (inetN [l] = 65535 ∨ inetN [l] = 0) = V) (hc : n ≤ c) (hl : n ≤ 100000) (w : World) (h : RB w A l) (S : Nat) (hS : w.heap.size = S) :
    Calls Try.prog 39 #[.slice (some ⟨S, 0, none⟩) 1 1] (w.alloc (.cells #[.slice A n c] 23)) fun e w' => e = .returned (.bool V) ∧ Below w.heap.size w w' := by
  subst hV hS
  refine (valid_calls (some ⟨w.heap.size, 0, none⟩) 1 [l] _ (RBB.one A c n l h hn.symm hc _) (by simp) (fun i hi => by
    have : i < 1 := hi
    obtain rfl : i = 0 := by omega
    show l.length ≤ _
    omega)).mono ?_
  rintro e w' ⟨rfl, rfl⟩
  exact ⟨rfl, ext_alloc _ _⟩
set_option maxRecDepth 100000 in
set_option maxHeartbeats 2000000 in
theorem get_sum (A : Option Addr) (c n : Nat) (l : List UInt8) (hn : l.length = n) (w : World) (h : RB w A l) (hc : n ≤ c) (hl : n ≤ 100000) (h22 : 22 ≤ n) (h20 : 22 + gb l 20 ≤ n) (hv : ¬ (inetN [l] = 65535 ∨ inetN [l] = 0)) :
    Calls Try.prog 16 #[.slice A n c] w fun e w' => e = .returned (.tuple #[.agg zeroCs.toArray, .int .i64 10]) ∧ Below w.heap.size w w' := by
  have H := Lib.hid h
  have HN := Lib.hid hn
  obtain ⟨b, o, rfl, hcl⟩ := h.form (by omega)
  have HVC := Lib.hid (valid_one (some ⟨b, o, none⟩) c n l hn false (decide_eq_false hv) hc hl)
  have c20 := hcl 20 (by omega)
  have c20' := (ext_alloc w (.cells zeroCs.toArray 25)).cell (p := ⟨b, o + 20, none⟩) (World.block_lt_of_cell? w _ c20)
  obtain ⟨x, hx⟩ : ∃ x, gb l 20 = x := ⟨_, rfl⟩
  rw [hx] at c20 h20
  rw [c20] at c20'
  have hx8 := gb_lt l 20
  rw [hx] at hx8
  have hz := zero_new w
  have hbz := ext_alloc w (.cells zeroCs.toArray 25)
  have hrz := h.ext hbz
  have HZ := Lib.hid hz
  have HBZ := Lib.hid hbz
  have HRZ := Lib.hid hrz
  simp only [zeroCs] at c20' HZ HBZ HRZ
  clear hcl hx c20 hv h hn hz hbz hrz
  go_enter Try.func16, Try.ntmps16
  go_wp2_with fail
  refine (HVC.out _ HRZ.out (w.heap.size + 1) (by simp)).mono ?_
  rintro e w2 ⟨rfl, hb2⟩
  have HG2 := Lib.hid ((hb2.block w.heap.size (by simp)).trans HZ.out)
  have HB2 := Lib.hid (ext_trans HBZ.out hb2)
  have hl2 : w.heap.size < w2.heap.size := by have := hb2.size; simp at this; omega
  clear hb2
  go_wp2_with ((with_reducible refine (?_ : wpList _ _ _ (_ :: _) _ _)); refine wpList_store_bk rfl 25 _ _ rfl w.heap.size zeroCs rfl rfl 25 _ HG2.out (infoP _ rfl) rfl one_zero ?_)
  intro w3 hk3 hg3 _
  have HK3 := Lib.hid hk3
  have HB3 := Lib.hid (below_grown HB2.out hg3 (by omega) (Nat.le_refl _))
  clear hk3 hg3
  go_wp2_with fail
  refine bodyPost_ret (results_ct rfl _ _ w.heap.size 25 _ (0, 0) _ rfl HK3.out Try.underlying25 rfl (infoP _ rfl)) rfl ?_
  exact ⟨rfl, HB3.out⟩

/-! ### the packet that the bytes say -/
def baseCs (l : List UInt8) : List Value :=
  [.int .i64 (gb l 1 : Int), .int .i64 (gb l 2 : Int), .int .i64 (nb2 l 4 : Int), .int .i64 (nb2 l 6 : Int), .int .u32 (nb4 l 8 : Int), .int .u32 (nb4 l 12 : Int), .int .i64 (gb l 3 : Int), .int .i64 (nb2 l 16 : Int), .int .i64 0, .int .i64 0, .slice none 0 0]
theorem one_base (l : List UInt8) : (baseCs l).toArray.all (·.oneCell') = true := by simp [baseCs, Value.oneCell']
/-- What region 6 goes through: the packet is made, then filled. -/
def GInv (w : World) (l : List UInt8) (bb : Nat → Bool) (W : World) : Prop :=
  Below w.heap.size w W ∧ (bif bb 29 then BK W w.heap.size 25 (baseCs l) else bif bb 28 then BK W w.heap.size 25 zeroCs else W.heap.size = w.heap.size)
section
variable {w W W' : World} {l : List UInt8} {bb : Nat → Bool}
theorem GInv.start (w : World) (l : List UInt8) : GInv w l (fun _ => false) w.drew := ⟨(Below.refl _ _).drew, rfl⟩
theorem GInv.zero (h : GInv w l bb W) (n29 : bb 29 = false) (n28 : bb 28 = false) : W.heap.size = w.heap.size := by
  have := h.2; rw [n29, n28] at this; exact this
theorem GInv.made (h : GInv w l bb W) (n29 : bb 29 = false) (n28 : bb 28 = false) : GInv w l (upd bb 28) (W.alloc (.cells zeroCs.toArray 25)) := by
  have hz := h.zero n29 n28
  refine ⟨h.1.alloc (by omega) _, ?_⟩
  rw [upd_ne (by decide), n29, upd_self]
  have := BK.new W 25 zeroCs
  rw [hz] at this
  exact this
theorem GInv.mid (h : GInv w l bb W) (n29 : bb 29 = false) (p28 : bb 28 = true) : BK W w.heap.size 25 zeroCs := by
  have := h.2; rw [n29, p28] at this; exact this
theorem GInv.fill (h : GInv w l bb W) (hk : BK W' w.heap.size 25 (baseCs l)) (hg : W.grownBy W' (some w.heap.size)) : GInv w l (upd bb 29) W' :=
  ⟨below_grown h.1 hg h.1.size (Nat.le_refl _), by rw [upd_self]; exact hk⟩
theorem GInv.done (h : GInv w l bb W) (p29 : bb 29 = true) : BK W w.heap.size 25 (baseCs l) := by
  have := h.2; rw [p29] at this; exact this
theorem GInv.step (h : GInv w l bb W) {i : Nat} (h1 : i ≠ 28) (h2 : i ≠ 29) : GInv w l (upd bb i) W := by
  refine ⟨h.1, ?_⟩
  rw [upd_ne (Ne.symm h1), upd_ne (Ne.symm h2)]
  exact h.2
theorem GInv.drew (h : GInv w l bb W) (d : Nat) : GInv w l bb (W.drewN d) := by
  refine ⟨ext_drewN h.1 d, ?_⟩
  have hb := ext_drewN (Below.refl W.heap.size W) d
  have hs : (W.drewN d).heap.size = W.heap.size := by simp
  have h2 := h.2
  cases h29 : bb 29 with
  | true => rw [h29] at h2; exact BK.ext h2 hb
  | false =>
    cases h28 : bb 28 with
    | true => rw [h29, h28] at h2; exact BK.ext h2 hb
    | false => rw [h29, h28] at h2; exact hs.trans h2
end
theorem clone_n (A : Option Addr) (c n : Nat) (l : List UInt8) (hn : l.length = n) (w : World) (h : RB w A l) (hl : n ≤ 100000) :
    Calls Try.prog 24 #[.slice A n c] w fun e w' => ∃ R d, e = .returned (.slice R n d) ∧ n ≤ d ∧ RB w' R l ∧ OwnB w.heap.size 5 w' (.slice R n d) l ∧ Below w.heap.size w w' := by
  subst hn
  refine (clone_calls A c l w h (by omega)).mono ?_
  rintro e w' ⟨v, rfl, ho, hb⟩
  obtain ⟨R, d, rfl, hr, hd, _⟩ := ho.form
  exact ⟨R, d, rfl, hd, hr, ho, hb⟩
theorem own_ne_bk {w : World} {B e n k t : Nat} {v : Value} {xs cs : List Value} (h : w.ownsRow B e 1 v n xs) (hk : BK w k t cs) (hne : e ≠ t) : v.ownBlock ≠ some k := by
  rcases h.2 with ⟨rfl, _⟩ | ⟨g, cap, cur, rfl, _, hg, _⟩
  · exact fun e => by cases e
  · intro e1
    have : g = k := Option.some.inj e1
    subst this
    have := hg.symm.trans hk
    injection this with this
    injection this with _ this
    exact hne this
/-- The packet that the bytes l say, opt its options, data its data. -/
def cand (l opt data : List UInt8) : Pk :=
  ⟨gb l 1, gb l 2, nb2 l 4, nb2 l 6, nb4 l 8, nb4 l 12, gb l 3, nb2 l 16, if isPr opt = true then prI opt else 0, if isOg (afterPr opt) = true then (nb2 (afterPr opt) 2 : Int) else 0, data⟩
theorem cand_cs (l opt data : List UInt8) (R : Option Addr) (n d : Nat) : (readCs (baseCs l) opt).set 10 (.slice R n d) = (cand l opt data).cs R n d := by
  unfold readCs cand Pk.cs baseCs
  split <;> split <;> rfl
theorem readCs_10 (l opt : List UInt8) : (readCs (baseCs l) opt)[10]? = some (.slice none 0 0) := by
  unfold readCs baseCs
  split <;> split <;> rfl
theorem one_cs (P : Pk) (R : Option Addr) (n d : Nat) : (P.cs R n d).toArray.all (·.oneCell') = true := by simp [Pk.cs, Value.oneCell']
theorem strB_inj {a b : List UInt8} (h : strB a = strB b) : a = b := by rw [← strB_toList a, ← strB_toList b, h]
/-- What Get makes of bytes: a packet and a number. -/
def getP (l : List UInt8) : Pk × Int :=
  if l.length < 22 ∨ l.length < 22 + gb l 20 then (Pk.zero, 2)
  else if ¬ (inetN [l] = 65535 ∨ inetN [l] = 0) then (Pk.zero, 10)
  else if 128 < (l.drop (22 + gb l 20)).length then (Pk.zero, 4)
  else if okN (cand l ((l.take (22 + gb l 20)).drop 22) (l.drop (22 + gb l 20))) (l.drop (22 + gb l 20)).length = true ∧ putP (cand l ((l.take (22 + gb l 20)).drop 22) (l.drop (22 + gb l 20))) = l then (cand l ((l.take (22 + gb l 20)).drop 22) (l.drop (22 + gb l 20)), 0)
  else (Pk.zero, 20)
def Got (w : World) (l : List UInt8) (e : Ending) (w' : World) : Prop :=
  ∃ R n d, e = .returned (.tuple #[.agg ((getP l).1.cs R n d).toArray, .int .i64 (getP l).2]) ∧ n = (getP l).1.data.length ∧ n ≤ d ∧ OwnB w.heap.size 5 w' (.slice R n d) (getP l).1.data ∧ Below w.heap.size w w'
theorem Got.zero {w w' : World} {l : List UInt8} {E : Int} (hb : Below w.heap.size w w') (h : getP l = (Pk.zero, E)) : Got w l (.returned (.tuple #[.agg zeroCs.toArray, .int .i64 E])) w' :=
  ⟨none, 0, 0, by rw [h, ← zeroCs_cs], by rw [h]; rfl, Nat.le_refl _, by rw [h]; exact OwnB.nil _ _ _, hb⟩
theorem Got.ok {w w' : World} {l : List UInt8} {P : Pk} {R : Option Addr} {n d : Nat} (hb : Below w.heap.size w w') (h : getP l = (P, 0)) (hn : P.data.length = n) (hd : n ≤ d) (ho : OwnB w.heap.size 5 w' (.slice R n d) P.data) :
    Got w l (.returned (.tuple #[.agg (P.cs R n d).toArray, .int .i64 0])) w' :=
  ⟨R, n, d, by rw [h], by rw [h]; exact hn.symm, hd, by rw [h]; exact ho, hb⟩
theorem getP_main {l : List UInt8} {x : Nat} (hx : gb l 20 = x) (h22 : 22 ≤ l.length) (h20 : 22 + x ≤ l.length) (hv : inetN [l] = 65535 ∨ inetN [l] = 0) (opt data : List UInt8) (P : Pk) (ho : List.drop 22 (List.take (22 + x) l) = opt) (hd : List.drop (22 + x) l = data) (hP : cand l opt data = P) :
    (128 < data.length → getP l = (Pk.zero, 4)) ∧ (data.length ≤ 128 → okN P data.length = true → putP P = l → getP l = (P, 0)) ∧ (data.length ≤ 128 → ¬ (okN P data.length = true ∧ putP P = l) → getP l = (Pk.zero, 20)) := by
  unfold getP
  rw [hx, ho, hd, hP, if_neg (by omega), if_neg (fun h => h hv)]
  refine ⟨fun h => if_pos h, fun h1 h2 h3 => ?_, fun h1 h2 => ?_⟩
  · rw [if_neg (by omega), if_pos ⟨h2, h3⟩]
  · rw [if_neg (by omega), if_neg h2]
set_option maxRecDepth 100000 in
set_option maxHeartbeats 1500000 in
theorem get_main (A : Option Addr) (c n : Nat) (l : List UInt8) (hn : l.length = n) (w : World) (h : RB w A l) (hc : n ≤ c) (hcm : c ≤ 9223372036854775807) (hl : n ≤ 100000) (h22 : 22 ≤ n) (h20 : 22 + gb l 20 ≤ n) (hv : inetN [l] = 65535 ∨ inetN [l] = 0) :
    Calls Try.prog 16 #[.slice A n c] w (Got w l) := by
  have H := Lib.hid h
  have HN := Lib.hid hn
  obtain ⟨b, o, rfl, hcl⟩ := h.form (by omega)
  have HVC := Lib.hid (valid_one (some ⟨b, o, none⟩) c n l hn true (decide_eq_true hv) hc hl)
  have HGP0 := Lib.hid (fun x hx (h1 : 22 + x ≤ l.length) => getP_main (l := l) (x := x) hx (by omega) h1 hv)
  have c20 := hcl 20 (by omega)
  have hblt := World.block_lt_of_cell? w _ c20
  have c20' := (ext_alloc w (.cells zeroCs.toArray 25)).cell (p := ⟨b, o + 20, none⟩) hblt
  obtain ⟨x, hx⟩ : ∃ x, gb l 20 = x := ⟨_, rfl⟩
  rw [hx] at c20 h20
  rw [c20] at c20'
  have hx8 := gb_lt l 20
  rw [hx] at hx8
  have hz := zero_new w
  have hbz := ext_alloc w (.cells zeroCs.toArray 25)
  have hrz := h.ext hbz
  have HZ := Lib.hid hz
  have HBZ := Lib.hid hbz
  have HRZ := Lib.hid hrz
  have HX := Lib.hid hx
  have HGP := Lib.hid (HGP0.out x hx (by omega))
  clear HGP0
  simp only [zeroCs] at c20' HZ HBZ HRZ
  clear hcl hx c20 hv h hn hz hbz hrz
  go_enter Try.func16, Try.ntmps16
  go_wp2_with fail
  refine (HVC.out _ HRZ.out (w.heap.size + 1) (by simp)).mono ?_
  rintro e w5 ⟨rfl, hb2⟩
  have HG2 := Lib.hid ((hb2.block w.heap.size (by simp)).trans HZ.out)
  have HB2 := Lib.hid (ext_trans HBZ.out hb2)
  have HR5 := Lib.hid (HRZ.out.ext hb2)
  have hl2 : w.heap.size < w5.heap.size := by have := hb2.size; simp at this; omega
  have hb5 : b < w5.heap.size := by omega
  obtain ⟨_, _, eA, hcl5⟩ := HR5.out.form (by rw [HN.out]; omega)
  cases eA
  have c20 := hcl5 20 (by rw [HN.out]; omega)
  rw [HX.out] at c20
  have C1 := Lib.hid (hcl5 1 (by rw [HN.out]; omega))
  have C2 := Lib.hid (hcl5 2 (by rw [HN.out]; omega))
  have C3 := Lib.hid (hcl5 3 (by rw [HN.out]; omega))
  have C4 := Lib.hid (hcl5 4 (by rw [HN.out]; omega))
  have C5 := Lib.hid (hcl5 5 (by rw [HN.out]; omega))
  have C6 := Lib.hid (hcl5 6 (by rw [HN.out]; omega))
  have C7 := Lib.hid (hcl5 7 (by rw [HN.out]; omega))
  have C8 := Lib.hid (hcl5 8 (by rw [HN.out]; omega))
  have C9 := Lib.hid (hcl5 9 (by rw [HN.out]; omega))
  have C10 := Lib.hid (hcl5 10 (by rw [HN.out]; omega))
  have C11 := Lib.hid (hcl5 11 (by rw [HN.out]; omega))
  have C12 := Lib.hid (hcl5 12 (by rw [HN.out]; omega))
  have C13 := Lib.hid (hcl5 13 (by rw [HN.out]; omega))
  have C14 := Lib.hid (hcl5 14 (by rw [HN.out]; omega))
  have C15 := Lib.hid (hcl5 15 (by rw [HN.out]; omega))
  have C16 := Lib.hid (hcl5 16 (by rw [HN.out]; omega))
  have C17 := Lib.hid (hcl5 17 (by rw [HN.out]; omega))
  have HLT := Lib.hid hb5
  clear hb2 hcl5 HRZ HBZ HZ HVC c20'
  go_upto_region 6 with fail
  refine wp_region_inv [[], [0], [0, 1], [0, 1, 2], [], [4], [4, 5], [4, 5, 6], [], [8], [8, 9], [8, 9, 10], [], [12], [12, 13], [], [15], [12, 13, 14, 15, 16], [], [18], [12, 13, 14, 15, 16, 17, 18, 19], [], [21], [12, 13, 14, 15, 16, 17, 18, 19, 20, 21, 22], [], [24], [12, 13, 14, 15, 16, 17, 18, 19, 20, 21, 22, 23, 24, 25], [0, 1, 2, 3, 4, 5, 6, 7, 8, 9, 10, 11, 12, 13, 14, 15, 16, 17, 18, 19, 20, 21, 22, 23, 24, 25, 26], [], [0, 1, 2, 3, 4, 5, 6, 7, 8, 9, 10, 11, 12, 13, 14, 15, 16, 17, 18, 19, 20, 21, 22, 23, 24, 25, 26, 27, 28]]
    [fun u => u = .slice (some ⟨b, o, none⟩) n c,
     fun u => u = .pointer (some ⟨b, o + 1, none⟩),
     fun u => u = .int .u8 (gb l 1 : Int),
     fun u => u = .int .i64 (gb l 1 : Int),
     fun u => u = .slice (some ⟨b, o, none⟩) n c,
     fun u => u = .pointer (some ⟨b, o + 2, none⟩),
     fun u => u = .int .u8 (gb l 2 : Int),
     fun u => u = .int .i64 (gb l 2 : Int),
     fun u => u = .slice (some ⟨b, o, none⟩) n c,
     fun u => u = .pointer (some ⟨b, o + 3, none⟩),
     fun u => u = .int .u8 (gb l 3 : Int),
     fun u => u = .int .i64 (gb l 3 : Int),
     fun u => u = .slice (some ⟨b, o, none⟩) n c,
     fun u => u = .slice (some ⟨b, o + 4, none⟩) (n - 4) (c - 4),
     fun u => u = .int .i64 (nb2 l 4 : Int),
     fun u => u = .slice (some ⟨b, o, none⟩) n c,
     fun u => u = .slice (some ⟨b, o + 6, none⟩) (n - 6) (c - 6),
     fun u => u = .int .i64 (nb2 l 6 : Int),
     fun u => u = .slice (some ⟨b, o, none⟩) n c,
     fun u => u = .slice (some ⟨b, o + 8, none⟩) (n - 8) (c - 8),
     fun u => u = .int .u32 (nb4 l 8 : Int),
     fun u => u = .slice (some ⟨b, o, none⟩) n c,
     fun u => u = .slice (some ⟨b, o + 12, none⟩) (n - 12) (c - 12),
     fun u => u = .int .u32 (nb4 l 12 : Int),
     fun u => u = .slice (some ⟨b, o, none⟩) n c,
     fun u => u = .slice (some ⟨b, o + 16, none⟩) (n - 16) (c - 16),
     fun u => u = .int .i64 (nb2 l 16 : Int),
     fun u => u = .agg (baseCs l).toArray,
     fun u => u = .pointer (some ⟨w5.heap.size, 0, none⟩),
     fun _ => True]
    (fun u => ⟨#[Value.slice (some { block := b, off := o }) n c, undef, Value.pointer (some { block := w.heap.size, off := 0 }), Value.int IntKind.i64 0, Value.int IntKind.i64 (22 + (x : Int)), u 28, undef, undef, Value.bool (decide ((n : Int) < 22) || decide ((n : Int) < 22 + (x : Int))), Value.slice (some { block := b, off := o }) n c, Value.int IntKind.i64 (n : Int), Value.bool (decide ((n : Int) < 22)), Value.bool (decide ((n : Int) < 22)), Value.slice (some { block := b, off := o }) n c, Value.int IntKind.i64 (n : Int), Value.slice (some { block := b, off := o }) n c, Value.pointer (some { block := b, off := o + 20 }), Value.int IntKind.u8 (x : Int), Value.int IntKind.i64 (x : Int), Value.int IntKind.i64 (22 + (x : Int)), Value.bool (decide ((n : Int) < 22 + (x : Int))), Value.bool (decide ((n : Int) < 22) || decide ((n : Int) < 22 + (x : Int))), undef, Value.bool false, Value.slice (some { block := b, off := o }) n c, Value.slice (some { block := w.heap.size + 1, off := 0 }) 1 1, Value.bool true, Value.bool false, undef, Value.slice (some { block := b, off := o }) n c, Value.pointer (some { block := b, off := o + 20 }), Value.int IntKind.u8 (x : Int), Value.int IntKind.i64 (x : Int), Value.int IntKind.i64 (22 + (x : Int)), u 0, u 1, u 2, u 3, u 4, u 5, u 6, u 7, u 8, u 9, u 10, u 11, u 12, u 13, u 14, u 15, u 16, u 17, u 18, u 19, u 20, u 21, u 22, u 23, u 24, u 25, u 26, u 27, undef, undef, undef, undef, undef, undef, undef, undef, undef, undef, undef, undef, undef, undef, undef, undef, undef, undef, undef, undef, undef, undef, undef, undef, undef, undef, undef, undef, undef, undef, undef], []⟩)
    (GInv w5 l) (fun j => [undef, undef, undef, undef, undef, undef, undef, undef, undef, undef, undef, undef, undef, undef, undef, undef, undef, undef, undef, undef, undef, undef, undef, undef, undef, undef, undef, undef, undef, undef].getD j undef) (by kernel_rfl) (by kernel_rfl) (by kernel_rfl) rfl (GInv.start _ _) ?_ ?_
  · refine ⟨?_, ?_, ?_, ?_, ?_, ?_, ?_, ?_, ?_, ?_, ?_, ?_, ?_, ?_, ?_, ?_, ?_, ?_, ?_, ?_, ?_, ?_, ?_, ?_, ?_, ?_, ?_, ?_, ?_, ?_, trivial⟩
    · intro bb u w2 hv hbi hC hF J K hJ hK
      have HV := Lib.hid hv
      have HF := Lib.hid hF
      have HC := Lib.hid hC
      have HBI := Lib.hid hbi
      clear hv hF hC hbi
      go_wp2
      exact hJ _ _ _ (HV.out.step (by decide) (by decide)) (rfl) (by simp [setU] <;> omega)
    · intro bb u w2 hv hbi hC hF J K hJ hK
      have HV := Lib.hid hv
      have HF := Lib.hid hF
      have HC := Lib.hid hC
      have HBI := Lib.hid hbi
      clear hv hF hC hbi
      have f0 : u 0 = .slice (some ⟨b, o, none⟩) n c := (HF.out 0 (by decide)).2
      go_wp2
      exact hJ _ _ _ (HV.out.step (by decide) (by decide)) (rfl) (by simp [setU, f0] <;> omega)
    · intro bb u w2 hv hbi hC hF J K hJ hK
      have HV := Lib.hid hv
      have HF := Lib.hid hF
      have HC := Lib.hid hC
      have HBI := Lib.hid hbi
      clear hv hF hC hbi
      have f1 : u 1 = .pointer (some ⟨b, o + 1, none⟩) := (HF.out 1 (by decide)).2
      have q0 : w2.cell? ⟨b, o + 1, none⟩ = some (.int .u8 (gb l 1 : Int)) := (HV.out.1.cell (p := ⟨b, o + 1, none⟩) HLT.out).trans C1.out
      go_wp2
      exact hJ _ _ _ (HV.out.step (by decide) (by decide)) (rfl) (by simp [setU, f1] <;> omega)
    · intro bb u w2 hv hbi hC hF J K hJ hK
      have HV := Lib.hid hv
      have HF := Lib.hid hF
      have HC := Lib.hid hC
      have HBI := Lib.hid hbi
      clear hv hF hC hbi
      have f2 : u 2 = .int .u8 (gb l 1 : Int) := (HF.out 2 (by decide)).2
      have hb := gb_lt l 1
      go_wp2
      exact hJ _ _ _ (HV.out.step (by decide) (by decide)) (rfl) (by simp [setU, f2] <;> omega)
    · intro bb u w2 hv hbi hC hF J K hJ hK
      have HV := Lib.hid hv
      have HF := Lib.hid hF
      have HC := Lib.hid hC
      have HBI := Lib.hid hbi
      clear hv hF hC hbi
      go_wp2
      exact hJ _ _ _ (HV.out.step (by decide) (by decide)) (rfl) (by simp [setU] <;> omega)
    · intro bb u w2 hv hbi hC hF J K hJ hK
      have HV := Lib.hid hv
      have HF := Lib.hid hF
      have HC := Lib.hid hC
      have HBI := Lib.hid hbi
      clear hv hF hC hbi
      have f4 : u 4 = .slice (some ⟨b, o, none⟩) n c := (HF.out 4 (by decide)).2
      go_wp2
      exact hJ _ _ _ (HV.out.step (by decide) (by decide)) (rfl) (by simp [setU, f4] <;> omega)
    · intro bb u w2 hv hbi hC hF J K hJ hK
      have HV := Lib.hid hv
      have HF := Lib.hid hF
      have HC := Lib.hid hC
      have HBI := Lib.hid hbi
      clear hv hF hC hbi
      have f5 : u 5 = .pointer (some ⟨b, o + 2, none⟩) := (HF.out 5 (by decide)).2
      have q0 : w2.cell? ⟨b, o + 2, none⟩ = some (.int .u8 (gb l 2 : Int)) := (HV.out.1.cell (p := ⟨b, o + 2, none⟩) HLT.out).trans C2.out
      go_wp2
      exact hJ _ _ _ (HV.out.step (by decide) (by decide)) (rfl) (by simp [setU, f5] <;> omega)
    · intro bb u w2 hv hbi hC hF J K hJ hK
      have HV := Lib.hid hv
      have HF := Lib.hid hF
      have HC := Lib.hid hC
      have HBI := Lib.hid hbi
      clear hv hF hC hbi
      have f6 : u 6 = .int .u8 (gb l 2 : Int) := (HF.out 6 (by decide)).2
      have hb := gb_lt l 2
      go_wp2
      exact hJ _ _ _ (HV.out.step (by decide) (by decide)) (rfl) (by simp [setU, f6] <;> omega)
    · intro bb u w2 hv hbi hC hF J K hJ hK
      have HV := Lib.hid hv
      have HF := Lib.hid hF
      have HC := Lib.hid hC
      have HBI := Lib.hid hbi
      clear hv hF hC hbi
      go_wp2
      exact hJ _ _ _ (HV.out.step (by decide) (by decide)) (rfl) (by simp [setU] <;> omega)
    · intro bb u w2 hv hbi hC hF J K hJ hK
      have HV := Lib.hid hv
      have HF := Lib.hid hF
      have HC := Lib.hid hC
      have HBI := Lib.hid hbi
      clear hv hF hC hbi
      have f8 : u 8 = .slice (some ⟨b, o, none⟩) n c := (HF.out 8 (by decide)).2
      go_wp2
      exact hJ _ _ _ (HV.out.step (by decide) (by decide)) (rfl) (by simp [setU, f8] <;> omega)
    · intro bb u w2 hv hbi hC hF J K hJ hK
      have HV := Lib.hid hv
      have HF := Lib.hid hF
      have HC := Lib.hid hC
      have HBI := Lib.hid hbi
      clear hv hF hC hbi
      have f9 : u 9 = .pointer (some ⟨b, o + 3, none⟩) := (HF.out 9 (by decide)).2
      have q0 : w2.cell? ⟨b, o + 3, none⟩ = some (.int .u8 (gb l 3 : Int)) := (HV.out.1.cell (p := ⟨b, o + 3, none⟩) HLT.out).trans C3.out
      go_wp2
      exact hJ _ _ _ (HV.out.step (by decide) (by decide)) (rfl) (by simp [setU, f9] <;> omega)
    · intro bb u w2 hv hbi hC hF J K hJ hK
      have HV := Lib.hid hv
      have HF := Lib.hid hF
      have HC := Lib.hid hC
      have HBI := Lib.hid hbi
      clear hv hF hC hbi
      have f10 : u 10 = .int .u8 (gb l 3 : Int) := (HF.out 10 (by decide)).2
      have hb := gb_lt l 3
      go_wp2
      exact hJ _ _ _ (HV.out.step (by decide) (by decide)) (rfl) (by simp [setU, f10] <;> omega)
    · intro bb u w2 hv hbi hC hF J K hJ hK
      have HV := Lib.hid hv
      have HF := Lib.hid hF
      have HC := Lib.hid hC
      have HBI := Lib.hid hbi
      clear hv hF hC hbi
      go_wp2
      exact hJ _ _ _ (HV.out.step (by decide) (by decide)) (rfl) (by simp [setU] <;> omega)
    · intro bb u w2 hv hbi hC hF J K hJ hK
      have HV := Lib.hid hv
      have HF := Lib.hid hF
      have HC := Lib.hid hC
      have HBI := Lib.hid hbi
      clear hv hF hC hbi
      have f12 : u 12 = .slice (some ⟨b, o, none⟩) n c := (HF.out 12 (by decide)).2
      go_wp2
      exact hJ _ _ _ (HV.out.step (by decide) (by decide)) (rfl) (by simp [setU, f12] <;> omega)
    · intro bb u w2 hv hbi hC hF J K hJ hK
      have HV := Lib.hid hv
      have HF := Lib.hid hF
      have HC := Lib.hid hC
      have HBI := Lib.hid hbi
      clear hv hF hC hbi
      have f13 : u 13 = .slice (some ⟨b, o + 4, none⟩) (n - 4) (c - 4) := (HF.out 13 (by decide)).2
      have q0 : w2.cell? ⟨b, o + 4, none⟩ = some (.int .u8 (gb l 4 : Int)) := (HV.out.1.cell (p := ⟨b, o + 4, none⟩) HLT.out).trans C4.out
      have q1 : w2.cell? ⟨b, o + 4 + 1, none⟩ = some (.int .u8 (gb l 5 : Int)) := (HV.out.1.cell (p := ⟨b, o + 5, none⟩) HLT.out).trans C5.out
      have Q0 := Lib.hid q0
      have Q1 := Lib.hid q1
      clear q0 q1
      go_wp2_with fail
      refine (get2_calls b (o + 4) (n - 4) (c - 4) _ _ (gb_lt l 4) (gb_lt l 5) (by omega) w2 Q0.out Q1.out).mono ?_
      rintro e w4 ⟨rfl, d, rfl⟩
      rw [show gb l 4 * 256 + gb l 5 = nb2 l 4 from rfl]
      go_wp2
      exact hJ _ _ _ ((HV.out.drew d).step (by decide) (by decide)) (rfl) (by simp [setU, f13] <;> omega)
    · intro bb u w2 hv hbi hC hF J K hJ hK
      have HV := Lib.hid hv
      have HF := Lib.hid hF
      have HC := Lib.hid hC
      have HBI := Lib.hid hbi
      clear hv hF hC hbi
      go_wp2
      exact hJ _ _ _ (HV.out.step (by decide) (by decide)) (rfl) (by simp [setU] <;> omega)
    · intro bb u w2 hv hbi hC hF J K hJ hK
      have HV := Lib.hid hv
      have HF := Lib.hid hF
      have HC := Lib.hid hC
      have HBI := Lib.hid hbi
      clear hv hF hC hbi
      have f15 : u 15 = .slice (some ⟨b, o, none⟩) n c := (HF.out 15 (by decide)).2
      go_wp2
      exact hJ _ _ _ (HV.out.step (by decide) (by decide)) (rfl) (by simp [setU, f15] <;> omega)
    · intro bb u w2 hv hbi hC hF J K hJ hK
      have HV := Lib.hid hv
      have HF := Lib.hid hF
      have HC := Lib.hid hC
      have HBI := Lib.hid hbi
      clear hv hF hC hbi
      have f16 : u 16 = .slice (some ⟨b, o + 6, none⟩) (n - 6) (c - 6) := (HF.out 16 (by decide)).2
      have q0 : w2.cell? ⟨b, o + 6, none⟩ = some (.int .u8 (gb l 6 : Int)) := (HV.out.1.cell (p := ⟨b, o + 6, none⟩) HLT.out).trans C6.out
      have q1 : w2.cell? ⟨b, o + 6 + 1, none⟩ = some (.int .u8 (gb l 7 : Int)) := (HV.out.1.cell (p := ⟨b, o + 7, none⟩) HLT.out).trans C7.out
      have Q0 := Lib.hid q0
      have Q1 := Lib.hid q1
      clear q0 q1
      go_wp2_with fail
      refine (get2_calls b (o + 6) (n - 6) (c - 6) _ _ (gb_lt l 6) (gb_lt l 7) (by omega) w2 Q0.out Q1.out).mono ?_
      rintro e w4 ⟨rfl, d, rfl⟩
      rw [show gb l 6 * 256 + gb l 7 = nb2 l 6 from rfl]
      go_wp2
      exact hJ _ _ _ ((HV.out.drew d).step (by decide) (by decide)) (rfl) (by simp [setU, f16] <;> omega)
    · intro bb u w2 hv hbi hC hF J K hJ hK
      have HV := Lib.hid hv
      have HF := Lib.hid hF
      have HC := Lib.hid hC
      have HBI := Lib.hid hbi
      clear hv hF hC hbi
      go_wp2
      exact hJ _ _ _ (HV.out.step (by decide) (by decide)) (rfl) (by simp [setU] <;> omega)
    · intro bb u w2 hv hbi hC hF J K hJ hK
      have HV := Lib.hid hv
      have HF := Lib.hid hF
      have HC := Lib.hid hC
      have HBI := Lib.hid hbi
      clear hv hF hC hbi
      have f18 : u 18 = .slice (some ⟨b, o, none⟩) n c := (HF.out 18 (by decide)).2
      go_wp2
      exact hJ _ _ _ (HV.out.step (by decide) (by decide)) (rfl) (by simp [setU, f18] <;> omega)
    · intro bb u w2 hv hbi hC hF J K hJ hK
      have HV := Lib.hid hv
      have HF := Lib.hid hF
      have HC := Lib.hid hC
      have HBI := Lib.hid hbi
      clear hv hF hC hbi
      have f19 : u 19 = .slice (some ⟨b, o + 8, none⟩) (n - 8) (c - 8) := (HF.out 19 (by decide)).2
      have q0 : w2.cell? ⟨b, o + 8, none⟩ = some (.int .u8 (gb l 8 : Int)) := (HV.out.1.cell (p := ⟨b, o + 8, none⟩) HLT.out).trans C8.out
      have q1 : w2.cell? ⟨b, o + 8 + 1, none⟩ = some (.int .u8 (gb l 9 : Int)) := (HV.out.1.cell (p := ⟨b, o + 9, none⟩) HLT.out).trans C9.out
      have q2 : w2.cell? ⟨b, o + 8 + 2, none⟩ = some (.int .u8 (gb l 10 : Int)) := (HV.out.1.cell (p := ⟨b, o + 10, none⟩) HLT.out).trans C10.out
      have q3 : w2.cell? ⟨b, o + 8 + 2 + 1, none⟩ = some (.int .u8 (gb l 11 : Int)) := (HV.out.1.cell (p := ⟨b, o + 11, none⟩) HLT.out).trans C11.out
      have Q0 := Lib.hid q0
      have Q1 := Lib.hid q1
      have Q2 := Lib.hid q2
      have Q3 := Lib.hid q3
      clear q0 q1 q2 q3
      go_wp2_with fail
      refine (get4_calls b (o + 8) (n - 8) (c - 8) _ _ _ _ (gb_lt l 8) (gb_lt l 9) (gb_lt l 10) (gb_lt l 11) (by omega) (by omega) w2 Q0.out Q1.out Q2.out Q3.out).mono ?_
      rintro e w4 ⟨rfl, d, rfl⟩
      rw [show (gb l 8 * 256 + gb l 9) * 65536 + (gb l 10 * 256 + gb l 11) = nb4 l 8 from rfl]
      go_wp2
      exact hJ _ _ _ ((HV.out.drew d).step (by decide) (by decide)) (rfl) (by simp [setU, f19] <;> omega)
    · intro bb u w2 hv hbi hC hF J K hJ hK
      have HV := Lib.hid hv
      have HF := Lib.hid hF
      have HC := Lib.hid hC
      have HBI := Lib.hid hbi
      clear hv hF hC hbi
      go_wp2
      exact hJ _ _ _ (HV.out.step (by decide) (by decide)) (rfl) (by simp [setU] <;> omega)
    · intro bb u w2 hv hbi hC hF J K hJ hK
      have HV := Lib.hid hv
      have HF := Lib.hid hF
      have HC := Lib.hid hC
      have HBI := Lib.hid hbi
      clear hv hF hC hbi
      have f21 : u 21 = .slice (some ⟨b, o, none⟩) n c := (HF.out 21 (by decide)).2
      go_wp2
      exact hJ _ _ _ (HV.out.step (by decide) (by decide)) (rfl) (by simp [setU, f21] <;> omega)
    · intro bb u w2 hv hbi hC hF J K hJ hK
      have HV := Lib.hid hv
      have HF := Lib.hid hF
      have HC := Lib.hid hC
      have HBI := Lib.hid hbi
      clear hv hF hC hbi
      have f22 : u 22 = .slice (some ⟨b, o + 12, none⟩) (n - 12) (c - 12) := (HF.out 22 (by decide)).2
      have q0 : w2.cell? ⟨b, o + 12, none⟩ = some (.int .u8 (gb l 12 : Int)) := (HV.out.1.cell (p := ⟨b, o + 12, none⟩) HLT.out).trans C12.out
      have q1 : w2.cell? ⟨b, o + 12 + 1, none⟩ = some (.int .u8 (gb l 13 : Int)) := (HV.out.1.cell (p := ⟨b, o + 13, none⟩) HLT.out).trans C13.out
      have q2 : w2.cell? ⟨b, o + 12 + 2, none⟩ = some (.int .u8 (gb l 14 : Int)) := (HV.out.1.cell (p := ⟨b, o + 14, none⟩) HLT.out).trans C14.out
      have q3 : w2.cell? ⟨b, o + 12 + 2 + 1, none⟩ = some (.int .u8 (gb l 15 : Int)) := (HV.out.1.cell (p := ⟨b, o + 15, none⟩) HLT.out).trans C15.out
      have Q0 := Lib.hid q0
      have Q1 := Lib.hid q1
      have Q2 := Lib.hid q2
      have Q3 := Lib.hid q3
      clear q0 q1 q2 q3
      go_wp2_with fail
      refine (get4_calls b (o + 12) (n - 12) (c - 12) _ _ _ _ (gb_lt l 12) (gb_lt l 13) (gb_lt l 14) (gb_lt l 15) (by omega) (by omega) w2 Q0.out Q1.out Q2.out Q3.out).mono ?_
      rintro e w4 ⟨rfl, d, rfl⟩
      rw [show (gb l 12 * 256 + gb l 13) * 65536 + (gb l 14 * 256 + gb l 15) = nb4 l 12 from rfl]
      go_wp2
      exact hJ _ _ _ ((HV.out.drew d).step (by decide) (by decide)) (rfl) (by simp [setU, f22] <;> omega)
    · intro bb u w2 hv hbi hC hF J K hJ hK
      have HV := Lib.hid hv
      have HF := Lib.hid hF
      have HC := Lib.hid hC
      have HBI := Lib.hid hbi
      clear hv hF hC hbi
      go_wp2
      exact hJ _ _ _ (HV.out.step (by decide) (by decide)) (rfl) (by simp [setU] <;> omega)
    · intro bb u w2 hv hbi hC hF J K hJ hK
      have HV := Lib.hid hv
      have HF := Lib.hid hF
      have HC := Lib.hid hC
      have HBI := Lib.hid hbi
      clear hv hF hC hbi
      have f24 : u 24 = .slice (some ⟨b, o, none⟩) n c := (HF.out 24 (by decide)).2
      go_wp2
      exact hJ _ _ _ (HV.out.step (by decide) (by decide)) (rfl) (by simp [setU, f24] <;> omega)
    · intro bb u w2 hv hbi hC hF J K hJ hK
      have HV := Lib.hid hv
      have HF := Lib.hid hF
      have HC := Lib.hid hC
      have HBI := Lib.hid hbi
      clear hv hF hC hbi
      have f25 : u 25 = .slice (some ⟨b, o + 16, none⟩) (n - 16) (c - 16) := (HF.out 25 (by decide)).2
      have q0 : w2.cell? ⟨b, o + 16, none⟩ = some (.int .u8 (gb l 16 : Int)) := (HV.out.1.cell (p := ⟨b, o + 16, none⟩) HLT.out).trans C16.out
      have q1 : w2.cell? ⟨b, o + 16 + 1, none⟩ = some (.int .u8 (gb l 17 : Int)) := (HV.out.1.cell (p := ⟨b, o + 17, none⟩) HLT.out).trans C17.out
      have Q0 := Lib.hid q0
      have Q1 := Lib.hid q1
      clear q0 q1
      go_wp2_with fail
      refine (get2_calls b (o + 16) (n - 16) (c - 16) _ _ (gb_lt l 16) (gb_lt l 17) (by omega) w2 Q0.out Q1.out).mono ?_
      rintro e w4 ⟨rfl, d, rfl⟩
      rw [show gb l 16 * 256 + gb l 17 = nb2 l 16 from rfl]
      go_wp2
      exact hJ _ _ _ ((HV.out.drew d).step (by decide) (by decide)) (rfl) (by simp [setU, f25] <;> omega)
    · intro bb u w2 hv hbi hC hF J K hJ hK
      have HV := Lib.hid hv
      have HF := Lib.hid hF
      have HC := Lib.hid hC
      have HBI := Lib.hid hbi
      clear hv hF hC hbi
      have f3 : u 3 = .int .i64 (gb l 1 : Int) := (HF.out 3 (by decide)).2
      have f7 : u 7 = .int .i64 (gb l 2 : Int) := (HF.out 7 (by decide)).2
      have f11 : u 11 = .int .i64 (gb l 3 : Int) := (HF.out 11 (by decide)).2
      have f14 : u 14 = .int .i64 (nb2 l 4 : Int) := (HF.out 14 (by decide)).2
      have f17 : u 17 = .int .i64 (nb2 l 6 : Int) := (HF.out 17 (by decide)).2
      have f20 : u 20 = .int .u32 (nb4 l 8 : Int) := (HF.out 20 (by decide)).2
      have f23 : u 23 = .int .u32 (nb4 l 12 : Int) := (HF.out 23 (by decide)).2
      have f26 : u 26 = .int .i64 (nb2 l 16 : Int) := (HF.out 26 (by decide)).2
      go_wp2
      exact hJ _ _ _ (HV.out.step (by decide) (by decide)) (rfl) (by simp [setU, baseCs, f3, f7, f11, f14, f17, f20, f23, f26] <;> omega)
    · intro bb u w2 hv hbi hC hF J K hJ hK
      have HV := Lib.hid hv
      have HF := Lib.hid hF
      have HC := Lib.hid hC
      have HBI := Lib.hid hbi
      clear hv hF hC hbi
      have n29 : bb 29 = false := by cases h : bb 29 with | false => rfl | true => exact absurd (HC.out 29 28 (by decide) h) (by rw [HBI.out]; decide)
      have hsz := HV.out.zero n29 HBI.out
      have HI := Lib.hid (HV.out.made n29 HBI.out)
      go_wp2
      exact hJ _ _ _ (HI.out) (rfl) (by simp [setU] <;> omega)
    · intro bb u w2 hv hbi hC hF J K hJ hK
      have HV := Lib.hid hv
      have HF := Lib.hid hF
      have HC := Lib.hid hC
      have HBI := Lib.hid hbi
      clear hv hF hC hbi
      have f27 : u 27 = .agg (baseCs l).toArray := (HF.out 27 (by decide)).2
      have f28 : u 28 = .pointer (some ⟨w5.heap.size, 0, none⟩) := (HF.out 28 (by decide)).2
      have p28 : bb 28 = true := (HF.out 28 (by decide)).1
      have hK := Lib.hid (HV.out.mid HBI.out p28)
      dsimp only
      rw [f27, f28]
      go_wp2_with ((with_reducible refine (?_ : wpList _ _ _ [_] _ _)); refine wpList_store_bk rfl 25 _ _ rfl w5.heap.size (baseCs l) rfl rfl 25 _ hK.out (infoP _ rfl) rfl (one_base l) ?_)
      intro w3 hk3 hg3 _
      have HI := Lib.hid (HV.out.fill hk3 hg3)
      clear hk3 hg3 hK p28
      go_wp2
      exact hJ undef _ _ (HI.out) (trivial) (by simp [setU, f27, f28] <;> omega)
  · intro bb u w2 hb hv hF
    have HV := Lib.hid hv
    have HBB := Lib.hid hb
    have f28 : u 28 = .pointer (some ⟨w5.heap.size, 0, none⟩) := hF 28 (by decide)
    clear hv hb hF
    have hK := HV.out.done (HBB.out 29 (by decide))
    have hb6 := HV.out.1
    rw [f28]
    obtain ⟨k0, hk0⟩ : ∃ k, w.heap.size = k := ⟨_, rfl⟩
    obtain ⟨k1, hk1⟩ : ∃ k, w5.heap.size = k := ⟨_, rfl⟩
    have HG6 := Lib.hid (BK.ext HG2.out hb6)
    have HR6 := Lib.hid (HR5.out.ext hb6)
    have HB6 := Lib.hid (HB2.out.trans (hb6.mono (by omega)))
    rw [hk0] at HG6 hl2 hblt ⊢
    rw [hk1] at hK hl2 ⊢
    have HK6 := Lib.hid hK
    have HK0 := Lib.hid hk0
    obtain ⟨opt, hopt⟩ : ∃ p, (l.take (22 + x)).drop 22 = p := ⟨_, rfl⟩
    have hol : opt.length = x := by rw [← hopt, List.length_drop, List.length_take, HN.out]; omega
    have HOL := Lib.hid hol
    have HOPT := Lib.hid hopt
    have hro := (HR6.out.take (22 + x)).drop 22
    rw [hopt] at hro
    have HRO := Lib.hid hro
    have hbk : b ≠ k1 := by omega
    clear hk0 hk1 hK hb6 HV HBB hol hopt hro HG2 HB2 HR5 HLT f28 C1 C2 C3 C4 C5 C6 C7 C8 C9 C10 C11 C12 C13 C14 C15 C16 C17
    by_cases hc22 : c = 22
    · have hn22 : n = 22 := by omega
      have hx0 : x = 0 := by omega
      subst hc22 hn22 hx0
      go_wp2_with fail
      refine (read_calls k1 (baseCs l) _ _ rfl rfl (some ⟨b, o, none⟩) 0 0 opt HOL.out w2 HK6.out (by rw [List.eq_nil_of_length_eq_zero HOL.out]; exact RB.nil _ _) (by omega) (by omega) (fun _ _ _ e => by cases e; exact hbk)).mono ?_
      rintro e w3 ⟨rfl, hk3, hg3⟩
      have HK3 := Lib.hid hk3
      have HG3 := Lib.hid (HG6.out.same (hg3.block k0 HG6.out.lt (fun e => by have := Option.some.inj e; omega)))
      have HR3 := Lib.hid (HR6.out.grown hg3 (fun _ _ _ e => by cases e; exact hbk))
      have HB3 := Lib.hid (below_grown HB6.out hg3 (by have := HB6.out.size; omega) (by rw [HK0.out]; omega))
      have HC10 : Hid ((readCs (baseCs l) opt)[10]? = some (.slice none 0 0)) := Lib.hid (readCs_10 l opt)
      obtain ⟨data, hdata⟩ : ∃ p, l.drop 22 = p := ⟨_, rfl⟩
      obtain ⟨dl, hdl⟩ : ∃ p, 22 - 22 = p := ⟨_, rfl⟩
      have hdl2 : data.length = dl := by rw [← hdata, List.length_drop, HN.out, hdl]
      have HDL := Lib.hid hdl2
      have HDT := Lib.hid hdata
      have hdli : (22 : Int) - 22 = (dl : Int) := by omega
      have hrd := HR3.out.drop 22
      rw [hdata] at hrd
      have HRD := Lib.hid hrd
      clear hk3 hg3 HK6 HG6 HR6 HB6 HRO hdata hdl2 hrd
      have hdl0 : dl = 0 := by omega
      subst hdl0
      clear hdl
      go_wp2_with fail
      refine (clone_n (some ⟨b, o, none⟩) 0 0 data HDL.out w3 (by rw [List.eq_nil_of_length_eq_zero HDL.out]; exact RB.nil _ _) (by omega)).mono ?_
      rintro e w4 ⟨R, d, rfl, hnd, hr, ho, hb4⟩
      have HK4 := Lib.hid ((HK3.out.ext hb4).set 10 (.slice R 0 d))
      have k10 := (HK3.out.ext hb4).cell HC10.out
      have f10 := (HK3.out.ext hb4).frozen 10
      have hg5 := grown_setCell w4 k1 10 (.slice R 0 d)
      have HO5 := Lib.hid (ho.other hg5 (.inr (own_ne_bk ho (HK3.out.ext hb4) (by decide))))
      have HG5 := Lib.hid ((HG3.out.ext hb4).same (hg5.block k0 (HG3.out.ext hb4).lt (fun e => by have := Option.some.inj e; omega)))
      have hR5 := (HR3.out.ext hb4).grown hg5 (fun _ _ _ e => by cases e; exact hbk)
      have HR5 := Lib.hid hR5
      have HB5 := Lib.hid (below_grown (HB3.out.trans (hb4.mono (by have := HB3.out.size; omega))) hg5 (by have := hb4.size; have := HB3.out.size; omega) (by rw [HK0.out]; omega))
      have hs3 : w.heap.size ≤ w3.heap.size := HB3.out.size
      rw [cand_cs] at HK4
      have hPd : (cand l opt data).data.length = 0 := HDL.out
      have hPq : (cand l opt data).seq < 4294967296 := nb4_lt l 8
      have hPa : (cand l opt data).ack < 4294967296 := nb4_lt l 12
      have hPD : (cand l opt data).data = data := rfl
      obtain ⟨P, hP⟩ : ∃ P, cand l opt data = P := ⟨_, rfl⟩
      rw [hP] at HK4 hPd hPq hPa hPD
      have HPP := Lib.hid hP
      have HPD := Lib.hid hPd
      have HPQ := Lib.hid hPq
      have HPA := Lib.hid hPa
      have HPDD := Lib.hid hPD
      have hlen11 : (P.cs R 0 d).length = 11 := rfl
      have HL11 := Lib.hid hlen11
      clear hr ho hg5 hR5 hP hPd hPq hPa hPD hlen11 hb4 HK3 HG3 HR3 HB3
      go_upto_region 11 with fail
      have k1lt := HK4.out.lt
      clear k10 f10
      generalize w4.setCell ⟨k1, 10, none⟩ (.slice R 0 d) = w5' at *
      have LOAD11 := HK4.out
      have HLD := Lib.hid LOAD11
      clear LOAD11
      by_cases hok : okN P 0 = true
      · have HOK := Lib.hid hok
        clear hok
        go_wp2_with ((with_reducible refine (?_ : wpList _ _ _ (_ :: _) _ _)); refine wpList_load_row rfl 25 _ rfl k1 rfl 25 (P.cs R 0 d).toArray (0, 0) _ HLD.out Try.underlying25 rfl (infoP _ HL11.out) ?_)
        refine (put_good P R 0 d HPD.out w5' (by obtain ⟨_, _, e1, hr1, _⟩ := HO5.out.form; injection e1 with ea; rw [HPDD.out, ea]; exact hr1) hnd HPQ.out HPA.out HOK.out).mono ?_
        rintro e w6 ⟨Rp, mp, cp, rfl, hmp, hop, hb6⟩
        have HR6 := Lib.hid (HR5.out.ext hb6)
        have HG6 := Lib.hid (HG5.out.ext hb6)
        have HK6 := Lib.hid (HK4.out.ext hb6)
        have HO6 := Lib.hid (HO5.out.ext hb6)
        have HB6 := Lib.hid (HB5.out.trans (hb6.mono HB5.out.size))
        obtain ⟨_, _, ep, hrp, _, _⟩ := hop.form
        injection ep with e1 e2 e3
        subst e1 e3
        have cv1 := conv_str (P := Try.prog) Try.underlying23 Try.underlying5 Try.underlying9 hrp mp cp hmp
        have cv2 := conv_str (P := Try.prog) Try.underlying23 Try.underlying5 Try.underlying9 HR6.out 22 22 HN.out.symm
        by_cases hpl : putP P = l
        · have HPL := Lib.hid hpl
          rw [hpl] at cv1
          clear hpl hrp hop hb6 hmp e2
          go_wp2_with first | ((with_reducible refine (?_ : wpList _ _ _ (_ :: _) _ _)); refine wpList_load_row rfl 25 _ rfl k1 rfl 25 (P.cs R 0 d).toArray (0, 0) _ HK6.out Try.underlying25 rfl (infoP _ HL11.out) ?_) | ((with_reducible refine (?_ : wpList _ _ _ (_ :: _) _ _)); refine wpList_store_bk rfl 25 _ _ rfl k0 (P.cs R 0 d) rfl rfl 25 _ HG6.out (infoP _ HL11.out) rfl (one_cs _ _ _ _) ?_)
          intro wz hkz hgz _
          have HKZ := Lib.hid hkz
          have HBZ := Lib.hid (below_grown HB6.out hgz (by have := HB6.out.size; omega) (by rw [HK0.out]; exact Nat.le_refl _))
          have HOZ := Lib.hid (HO6.out.other hgz (.inr (own_ne_bk HO6.out HG6.out (by decide))))
          clear hkz hgz cv1 cv2
          go_wp2_with fail
          refine bodyPost_ret (results_ct rfl _ _ k0 25 _ (0, 0) _ rfl HKZ.out Try.underlying25 rfl (infoP _ HL11.out)) rfl ?_
          exact Got.ok HBZ.out ((HGP.out opt data P HOPT.out HDT.out HPP.out).2.1 (by have := HDL.out; omega) (by rw [HDL.out]; exact HOK.out) HPL.out) HPD.out hnd ((show OwnB _ _ _ _ P.data by rw [HPDD.out]; exact HOZ.out).mono hs3)
        · have hpl2 : ((strB (putP P)).toList == (strB l).toList) = false := by rw [strB_toList, strB_toList]; exact beq_eq_false_iff_ne.2 hpl
          have HPL := Lib.hid hpl
          clear hpl hrp hop hb6 hmp e2
          go_wp2_with ((with_reducible refine (?_ : wpList _ _ _ (_ :: _) _ _)); refine wpList_store_bk rfl 25 _ _ rfl k0 zeroCs rfl rfl 25 _ HG6.out (infoP _ rfl) rfl one_zero ?_)
          intro wz hkz hgz _
          have HKZ := Lib.hid hkz
          have HBZ := Lib.hid (below_grown HB6.out hgz (by have := HB6.out.size; omega) (by rw [HK0.out]; exact Nat.le_refl _))
          clear hkz hgz
          go_wp2_with fail
          refine bodyPost_ret (results_ct rfl _ _ k0 25 _ (0, 0) _ rfl HKZ.out Try.underlying25 rfl (infoP _ rfl)) rfl ?_
          exact Got.zero HBZ.out ((HGP.out opt data P HOPT.out HDT.out HPP.out).2.2 (by have := HDL.out; omega) (fun e => HPL.out e.2))
      · have HOK : Hid (okN P 0 = false) := Lib.hid (by simpa using hok)
        clear hok
        go_wp2_with ((with_reducible refine (?_ : wpList _ _ _ (_ :: _) _ _)); refine wpList_load_row rfl 25 _ rfl k1 rfl 25 (P.cs R 0 d).toArray (0, 0) _ HLD.out Try.underlying25 rfl (infoP _ HL11.out) ?_)
        refine (put_bad P R 0 d w5' HOK.out).mono ?_
        rintro e w6 ⟨rfl, hb6⟩
        have HG6 := Lib.hid (HG5.out.ext hb6)
        have HB6 := Lib.hid (HB5.out.trans (hb6.mono HB5.out.size))
        clear hb6
        go_wp2_with ((with_reducible refine (?_ : wpList _ _ _ (_ :: _) _ _)); refine wpList_store_bk rfl 25 _ _ rfl k0 zeroCs rfl rfl 25 _ HG6.out (infoP _ rfl) rfl one_zero ?_)
        intro wz hkz hgz _
        have HKZ := Lib.hid hkz
        have HBZ := Lib.hid (below_grown HB6.out hgz (by have := HB6.out.size; omega) (by rw [HK0.out]; exact Nat.le_refl _))
        clear hkz hgz
        go_wp2_with fail
        refine bodyPost_ret (results_ct rfl _ _ k0 25 _ (0, 0) _ rfl HKZ.out Try.underlying25 rfl (infoP _ rfl)) rfl ?_
        exact Got.zero HBZ.out ((HGP.out opt data P HOPT.out HDT.out HPP.out).2.2 (by have := HDL.out; omega) (fun e => by rw [HDL.out, HOK.out] at e; exact Bool.noConfusion e.1))
    · skip
      go_wp2_with fail
      refine (read_calls k1 (baseCs l) _ _ rfl rfl (some ⟨b, o + 22, none⟩) x (c - 22) opt HOL.out w2 HK6.out HRO.out (by omega) (by omega) (fun _ _ _ e => by cases e; exact hbk)).mono ?_
      rintro e w3 ⟨rfl, hk3, hg3⟩
      have HK3 := Lib.hid hk3
      have HG3 := Lib.hid (HG6.out.same (hg3.block k0 HG6.out.lt (fun e => by have := Option.some.inj e; omega)))
      have HR3 := Lib.hid (HR6.out.grown hg3 (fun _ _ _ e => by cases e; exact hbk))
      have HB3 := Lib.hid (below_grown HB6.out hg3 (by have := HB6.out.size; omega) (by rw [HK0.out]; omega))
      have HC10 : Hid ((readCs (baseCs l) opt)[10]? = some (.slice none 0 0)) := Lib.hid (readCs_10 l opt)
      obtain ⟨data, hdata⟩ : ∃ p, l.drop (22 + x) = p := ⟨_, rfl⟩
      obtain ⟨dl, hdl⟩ : ∃ p, n - (22 + x) = p := ⟨_, rfl⟩
      have hdl2 : data.length = dl := by rw [← hdata, List.length_drop, HN.out, hdl]
      have HDL := Lib.hid hdl2
      have HDT := Lib.hid hdata
      have hdli : (n : Int) - (22 + (x : Int)) = (dl : Int) := by omega
      have hrd := HR3.out.drop (22 + x)
      rw [hdata] at hrd
      have HRD := Lib.hid hrd
      clear hk3 hg3 HK6 HG6 HR6 HB6 HRO hdata hdl2 hrd
      by_cases hd128 : 128 < dl
      · have HDL0 := Lib.hid hdl
        clear hdl
        go_wp2_with ((with_reducible refine (?_ : wpList _ _ _ (_ :: _) _ _)); refine wpList_store_bk rfl 25 _ _ rfl k0 zeroCs rfl rfl 25 _ HG3.out (infoP _ rfl) rfl one_zero ?_)
        intro wz hkz hgz _
        have HKZ := Lib.hid hkz
        have HBZ := Lib.hid (below_grown HB3.out hgz (by have := HB3.out.size; omega) (by rw [HK0.out]; exact Nat.le_refl _))
        clear hkz hgz
        go_wp2_with fail
        refine bodyPost_ret (results_ct rfl _ _ k0 25 _ (0, 0) _ rfl HKZ.out Try.underlying25 rfl (infoP _ rfl)) rfl ?_
        exact Got.zero HBZ.out ((HGP.out opt data _ HOPT.out HDT.out rfl).1 (by rw [HDL.out]; exact hd128))
      · by_cases hcx : c = 22 + x
        · have hdl0 : dl = 0 := by omega
          subst hdl0
          have hdl1 : n - (22 + x) = 0 := hdl
          clear hdl
          go_wp2_with fail
          refine (clone_n (some ⟨b, o, none⟩) 0 0 data HDL.out w3 (by rw [List.eq_nil_of_length_eq_zero HDL.out]; exact RB.nil _ _) (by omega)).mono ?_
          rintro e w4 ⟨R, d, rfl, hnd, hr, ho, hb4⟩
          have HK4 := Lib.hid ((HK3.out.ext hb4).set 10 (.slice R 0 d))
          have k10 := (HK3.out.ext hb4).cell HC10.out
          have f10 := (HK3.out.ext hb4).frozen 10
          have hg5 := grown_setCell w4 k1 10 (.slice R 0 d)
          have HO5 := Lib.hid (ho.other hg5 (.inr (own_ne_bk ho (HK3.out.ext hb4) (by decide))))
          have HG5 := Lib.hid ((HG3.out.ext hb4).same (hg5.block k0 (HG3.out.ext hb4).lt (fun e => by have := Option.some.inj e; omega)))
          have hR5 := (HR3.out.ext hb4).grown hg5 (fun _ _ _ e => by cases e; exact hbk)
          have HR5 := Lib.hid hR5
          have HB5 := Lib.hid (below_grown (HB3.out.trans (hb4.mono (by have := HB3.out.size; omega))) hg5 (by have := hb4.size; have := HB3.out.size; omega) (by rw [HK0.out]; omega))
          have hs3 : w.heap.size ≤ w3.heap.size := HB3.out.size
          rw [cand_cs] at HK4
          have hPd : (cand l opt data).data.length = 0 := HDL.out
          have hPq : (cand l opt data).seq < 4294967296 := nb4_lt l 8
          have hPa : (cand l opt data).ack < 4294967296 := nb4_lt l 12
          have hPD : (cand l opt data).data = data := rfl
          obtain ⟨P, hP⟩ : ∃ P, cand l opt data = P := ⟨_, rfl⟩
          rw [hP] at HK4 hPd hPq hPa hPD
          have HPP := Lib.hid hP
          have HPD := Lib.hid hPd
          have HPQ := Lib.hid hPq
          have HPA := Lib.hid hPa
          have HPDD := Lib.hid hPD
          have hlen11 : (P.cs R 0 d).length = 11 := rfl
          have HL11 := Lib.hid hlen11
          clear hr ho hg5 hR5 hP hPd hPq hPa hPD hlen11 hb4 HK3 HG3 HR3 HB3
          go_upto_region 11 with fail
          have k1lt := HK4.out.lt
          clear k10 f10
          generalize w4.setCell ⟨k1, 10, none⟩ (.slice R 0 d) = w5' at *
          have LOAD11 := HK4.out
          have HLD := Lib.hid LOAD11
          clear LOAD11
          by_cases hok : okN P 0 = true
          · have HOK := Lib.hid hok
            clear hok
            go_wp2_with ((with_reducible refine (?_ : wpList _ _ _ (_ :: _) _ _)); refine wpList_load_row rfl 25 _ rfl k1 rfl 25 (P.cs R 0 d).toArray (0, 0) _ HLD.out Try.underlying25 rfl (infoP _ HL11.out) ?_)
            refine (put_good P R 0 d HPD.out w5' (by obtain ⟨_, _, e1, hr1, _⟩ := HO5.out.form; injection e1 with ea; rw [HPDD.out, ea]; exact hr1) hnd HPQ.out HPA.out HOK.out).mono ?_
            rintro e w6 ⟨Rp, mp, cp, rfl, hmp, hop, hb6⟩
            have HR6 := Lib.hid (HR5.out.ext hb6)
            have HG6 := Lib.hid (HG5.out.ext hb6)
            have HK6 := Lib.hid (HK4.out.ext hb6)
            have HO6 := Lib.hid (HO5.out.ext hb6)
            have HB6 := Lib.hid (HB5.out.trans (hb6.mono HB5.out.size))
            obtain ⟨_, _, ep, hrp, _, _⟩ := hop.form
            injection ep with e1 e2 e3
            subst e1 e3
            have cv1 := conv_str (P := Try.prog) Try.underlying23 Try.underlying5 Try.underlying9 hrp mp cp hmp
            have cv2 := conv_str (P := Try.prog) Try.underlying23 Try.underlying5 Try.underlying9 HR6.out n (22 + x) HN.out.symm
            by_cases hpl : putP P = l
            · have HPL := Lib.hid hpl
              rw [hpl] at cv1
              clear hpl hrp hop hb6 hmp e2
              go_wp2_with first | ((with_reducible refine (?_ : wpList _ _ _ (_ :: _) _ _)); refine wpList_load_row rfl 25 _ rfl k1 rfl 25 (P.cs R 0 d).toArray (0, 0) _ HK6.out Try.underlying25 rfl (infoP _ HL11.out) ?_) | ((with_reducible refine (?_ : wpList _ _ _ (_ :: _) _ _)); refine wpList_store_bk rfl 25 _ _ rfl k0 (P.cs R 0 d) rfl rfl 25 _ HG6.out (infoP _ HL11.out) rfl (one_cs _ _ _ _) ?_)
              intro wz hkz hgz _
              have HKZ := Lib.hid hkz
              have HBZ := Lib.hid (below_grown HB6.out hgz (by have := HB6.out.size; omega) (by rw [HK0.out]; exact Nat.le_refl _))
              have HOZ := Lib.hid (HO6.out.other hgz (.inr (own_ne_bk HO6.out HG6.out (by decide))))
              clear hkz hgz cv1 cv2
              go_wp2_with fail
              refine bodyPost_ret (results_ct rfl _ _ k0 25 _ (0, 0) _ rfl HKZ.out Try.underlying25 rfl (infoP _ HL11.out)) rfl ?_
              exact Got.ok HBZ.out ((HGP.out opt data P HOPT.out HDT.out HPP.out).2.1 (by have := HDL.out; omega) (by rw [HDL.out]; exact HOK.out) HPL.out) HPD.out hnd ((show OwnB _ _ _ _ P.data by rw [HPDD.out]; exact HOZ.out).mono hs3)
            · have hpl2 : ((strB (putP P)).toList == (strB l).toList) = false := by rw [strB_toList, strB_toList]; exact beq_eq_false_iff_ne.2 hpl
              have HPL := Lib.hid hpl
              clear hpl hrp hop hb6 hmp e2
              go_wp2_with ((with_reducible refine (?_ : wpList _ _ _ (_ :: _) _ _)); refine wpList_store_bk rfl 25 _ _ rfl k0 zeroCs rfl rfl 25 _ HG6.out (infoP _ rfl) rfl one_zero ?_)
              intro wz hkz hgz _
              have HKZ := Lib.hid hkz
              have HBZ := Lib.hid (below_grown HB6.out hgz (by have := HB6.out.size; omega) (by rw [HK0.out]; exact Nat.le_refl _))
              clear hkz hgz
              go_wp2_with fail
              refine bodyPost_ret (results_ct rfl _ _ k0 25 _ (0, 0) _ rfl HKZ.out Try.underlying25 rfl (infoP _ rfl)) rfl ?_
              exact Got.zero HBZ.out ((HGP.out opt data P HOPT.out HDT.out HPP.out).2.2 (by have := HDL.out; omega) (fun e => HPL.out e.2))
          · have HOK : Hid (okN P 0 = false) := Lib.hid (by simpa using hok)
            clear hok
            go_wp2_with ((with_reducible refine (?_ : wpList _ _ _ (_ :: _) _ _)); refine wpList_load_row rfl 25 _ rfl k1 rfl 25 (P.cs R 0 d).toArray (0, 0) _ HLD.out Try.underlying25 rfl (infoP _ HL11.out) ?_)
            refine (put_bad P R 0 d w5' HOK.out).mono ?_
            rintro e w6 ⟨rfl, hb6⟩
            have HG6 := Lib.hid (HG5.out.ext hb6)
            have HB6 := Lib.hid (HB5.out.trans (hb6.mono HB5.out.size))
            clear hb6
            go_wp2_with ((with_reducible refine (?_ : wpList _ _ _ (_ :: _) _ _)); refine wpList_store_bk rfl 25 _ _ rfl k0 zeroCs rfl rfl 25 _ HG6.out (infoP _ rfl) rfl one_zero ?_)
            intro wz hkz hgz _
            have HKZ := Lib.hid hkz
            have HBZ := Lib.hid (below_grown HB6.out hgz (by have := HB6.out.size; omega) (by rw [HK0.out]; exact Nat.le_refl _))
            clear hkz hgz
            go_wp2_with fail
            refine bodyPost_ret (results_ct rfl _ _ k0 25 _ (0, 0) _ rfl HKZ.out Try.underlying25 rfl (infoP _ rfl)) rfl ?_
            exact Got.zero HBZ.out ((HGP.out opt data P HOPT.out HDT.out HPP.out).2.2 (by have := HDL.out; omega) (fun e => by rw [HDL.out, HOK.out] at e; exact Bool.noConfusion e.1))
        · have HDL0 := Lib.hid hdl
          have hdl1 : n - (22 + x) = dl := hdl
          go_wp2_with fail
          refine (clone_n (some ⟨b, o + (22 + x), none⟩) (c - (22 + x)) dl data HDL.out w3 HRD.out (by omega)).mono ?_
          rintro e w4 ⟨R, d, rfl, hnd, hr, ho, hb4⟩
          have HK4 := Lib.hid ((HK3.out.ext hb4).set 10 (.slice R dl d))
          have k10 := (HK3.out.ext hb4).cell HC10.out
          have f10 := (HK3.out.ext hb4).frozen 10
          have hg5 := grown_setCell w4 k1 10 (.slice R dl d)
          have HO5 := Lib.hid (ho.other hg5 (.inr (own_ne_bk ho (HK3.out.ext hb4) (by decide))))
          have HG5 := Lib.hid ((HG3.out.ext hb4).same (hg5.block k0 (HG3.out.ext hb4).lt (fun e => by have := Option.some.inj e; omega)))
          have hR5 := (HR3.out.ext hb4).grown hg5 (fun _ _ _ e => by cases e; exact hbk)
          have HR5 := Lib.hid hR5
          have HB5 := Lib.hid (below_grown (HB3.out.trans (hb4.mono (by have := HB3.out.size; omega))) hg5 (by have := hb4.size; have := HB3.out.size; omega) (by rw [HK0.out]; omega))
          have hs3 : w.heap.size ≤ w3.heap.size := HB3.out.size
          rw [cand_cs] at HK4
          have hPd : (cand l opt data).data.length = dl := HDL.out
          have hPq : (cand l opt data).seq < 4294967296 := nb4_lt l 8
          have hPa : (cand l opt data).ack < 4294967296 := nb4_lt l 12
          have hPD : (cand l opt data).data = data := rfl
          obtain ⟨P, hP⟩ : ∃ P, cand l opt data = P := ⟨_, rfl⟩
          rw [hP] at HK4 hPd hPq hPa hPD
          have HPP := Lib.hid hP
          have HPD := Lib.hid hPd
          have HPQ := Lib.hid hPq
          have HPA := Lib.hid hPa
          have HPDD := Lib.hid hPD
          have hlen11 : (P.cs R dl d).length = 11 := rfl
          have HL11 := Lib.hid hlen11
          clear hr ho hg5 hR5 hP hPd hPq hPa hPD hlen11 hb4 HK3 HG3 HR3 HB3
          go_upto_region 11 with fail
          have k1lt := HK4.out.lt
          clear k10 f10
          generalize w4.setCell ⟨k1, 10, none⟩ (.slice R dl d) = w5' at *
          have LOAD11 := HK4.out
          have HLD := Lib.hid LOAD11
          clear LOAD11
          by_cases hok : okN P dl = true
          · have HOK := Lib.hid hok
            clear hok
            go_wp2_with ((with_reducible refine (?_ : wpList _ _ _ (_ :: _) _ _)); refine wpList_load_row rfl 25 _ rfl k1 rfl 25 (P.cs R dl d).toArray (0, 0) _ HLD.out Try.underlying25 rfl (infoP _ HL11.out) ?_)
            refine (put_good P R dl d HPD.out w5' (by obtain ⟨_, _, e1, hr1, _⟩ := HO5.out.form; injection e1 with ea; rw [HPDD.out, ea]; exact hr1) hnd HPQ.out HPA.out HOK.out).mono ?_
            rintro e w6 ⟨Rp, mp, cp, rfl, hmp, hop, hb6⟩
            have HR6 := Lib.hid (HR5.out.ext hb6)
            have HG6 := Lib.hid (HG5.out.ext hb6)
            have HK6 := Lib.hid (HK4.out.ext hb6)
            have HO6 := Lib.hid (HO5.out.ext hb6)
            have HB6 := Lib.hid (HB5.out.trans (hb6.mono HB5.out.size))
            obtain ⟨_, _, ep, hrp, _, _⟩ := hop.form
            injection ep with e1 e2 e3
            subst e1 e3
            have cv1 := conv_str (P := Try.prog) Try.underlying23 Try.underlying5 Try.underlying9 hrp mp cp hmp
            have cv2 := conv_str (P := Try.prog) Try.underlying23 Try.underlying5 Try.underlying9 HR6.out n c HN.out.symm
            by_cases hpl : putP P = l
            · have HPL := Lib.hid hpl
              rw [hpl] at cv1
              clear hpl hrp hop hb6 hmp e2
              go_wp2_with first | ((with_reducible refine (?_ : wpList _ _ _ (_ :: _) _ _)); refine wpList_load_row rfl 25 _ rfl k1 rfl 25 (P.cs R dl d).toArray (0, 0) _ HK6.out Try.underlying25 rfl (infoP _ HL11.out) ?_) | ((with_reducible refine (?_ : wpList _ _ _ (_ :: _) _ _)); refine wpList_store_bk rfl 25 _ _ rfl k0 (P.cs R dl d) rfl rfl 25 _ HG6.out (infoP _ HL11.out) rfl (one_cs _ _ _ _) ?_)
              intro wz hkz hgz _
              have HKZ := Lib.hid hkz
              have HBZ := Lib.hid (below_grown HB6.out hgz (by have := HB6.out.size; omega) (by rw [HK0.out]; exact Nat.le_refl _))
              have HOZ := Lib.hid (HO6.out.other hgz (.inr (own_ne_bk HO6.out HG6.out (by decide))))
              clear hkz hgz cv1 cv2
              go_wp2_with fail
              refine bodyPost_ret (results_ct rfl _ _ k0 25 _ (0, 0) _ rfl HKZ.out Try.underlying25 rfl (infoP _ HL11.out)) rfl ?_
              exact Got.ok HBZ.out ((HGP.out opt data P HOPT.out HDT.out HPP.out).2.1 (by have := HDL.out; omega) (by rw [HDL.out]; exact HOK.out) HPL.out) HPD.out hnd ((show OwnB _ _ _ _ P.data by rw [HPDD.out]; exact HOZ.out).mono hs3)
            · have hpl2 : ((strB (putP P)).toList == (strB l).toList) = false := by rw [strB_toList, strB_toList]; exact beq_eq_false_iff_ne.2 hpl
              have HPL := Lib.hid hpl
              clear hpl hrp hop hb6 hmp e2
              go_wp2_with ((with_reducible refine (?_ : wpList _ _ _ (_ :: _) _ _)); refine wpList_store_bk rfl 25 _ _ rfl k0 zeroCs rfl rfl 25 _ HG6.out (infoP _ rfl) rfl one_zero ?_)
              intro wz hkz hgz _
              have HKZ := Lib.hid hkz
              have HBZ := Lib.hid (below_grown HB6.out hgz (by have := HB6.out.size; omega) (by rw [HK0.out]; exact Nat.le_refl _))
              clear hkz hgz
              go_wp2_with fail
              refine bodyPost_ret (results_ct rfl _ _ k0 25 _ (0, 0) _ rfl HKZ.out Try.underlying25 rfl (infoP _ rfl)) rfl ?_
              exact Got.zero HBZ.out ((HGP.out opt data P HOPT.out HDT.out HPP.out).2.2 (by have := HDL.out; omega) (fun e => HPL.out e.2))
          · have HOK : Hid (okN P dl = false) := Lib.hid (by simpa using hok)
            clear hok
            go_wp2_with ((with_reducible refine (?_ : wpList _ _ _ (_ :: _) _ _)); refine wpList_load_row rfl 25 _ rfl k1 rfl 25 (P.cs R dl d).toArray (0, 0) _ HLD.out Try.underlying25 rfl (infoP _ HL11.out) ?_)
            refine (put_bad P R dl d w5' HOK.out).mono ?_
            rintro e w6 ⟨rfl, hb6⟩
            have HG6 := Lib.hid (HG5.out.ext hb6)
            have HB6 := Lib.hid (HB5.out.trans (hb6.mono HB5.out.size))
            clear hb6
            go_wp2_with ((with_reducible refine (?_ : wpList _ _ _ (_ :: _) _ _)); refine wpList_store_bk rfl 25 _ _ rfl k0 zeroCs rfl rfl 25 _ HG6.out (infoP _ rfl) rfl one_zero ?_)
            intro wz hkz hgz _
            have HKZ := Lib.hid hkz
            have HBZ := Lib.hid (below_grown HB6.out hgz (by have := HB6.out.size; omega) (by rw [HK0.out]; exact Nat.le_refl _))
            clear hkz hgz
            go_wp2_with fail
            refine bodyPost_ret (results_ct rfl _ _ k0 25 _ (0, 0) _ rfl HKZ.out Try.underlying25 rfl (infoP _ rfl)) rfl ?_
            exact Got.zero HBZ.out ((HGP.out opt data P HOPT.out HDT.out HPP.out).2.2 (by have := HDL.out; omega) (fun e => by rw [HDL.out, HOK.out] at e; exact Bool.noConfusion e.1))
theorem get_calls (A : Option Addr) (c n : Nat) (l : List UInt8) (hn : l.length = n) (w : World) (h : RB w A l) (hc : n ≤ c) (hcm : c ≤ 9223372036854775807) (hl : n ≤ 100000) :
    Calls Try.prog 16 #[.slice A n c] w (Got w l) := by
  by_cases hs : n < 22 ∨ n < 22 + gb l 20
  · refine (get_short A c n l hn w h hs).mono ?_
    rintro e w' ⟨rfl, hb⟩
    exact Got.zero hb (by unfold getP; rw [if_pos (by rw [hn]; exact hs)])
  · by_cases hv : inetN [l] = 65535 ∨ inetN [l] = 0
    · exact get_main A c n l hn w h hc hcm hl (by omega) (by omega) hv
    · refine (get_sum A c n l hn w h hc hl (by omega) (by omega) hv).mono ?_
      rintro e w' ⟨rfl, hb⟩
      exact Got.zero hb (by unfold getP; rw [if_neg (by rw [hn]; exact hs), if_pos hv])
end Go.Proofs.Ytobkelpeenckeaa
