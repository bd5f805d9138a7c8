/- packet: Put: the walk. -/
import Derived.Test.YtobkelpeenckeaaPkC
import Derived.Test.YtobkelpeenckeaaConcat
import Derived.Test.YtobkelpeenckeaaSumsA
import Derived.Test.YtobkelpeenckeaaAnyZ
import Derived.Laws.CopyOwn
import Derived.Laws.CopyRow
import Derived.Deep.RegionLaw
namespace Go.Proofs.Ytobkelpeenckeaa
open Go.RowKit
set_option linter.unusedVariables false
set_option linter.unusedSimpArgs false

theorem catTo_flat (ls : List (List UInt8)) : ∀ k, k ≤ ls.length → catTo ls k = (ls.take k).flatten := by
  intro k
  induction k with
  | zero => intro _; rfl
  | succ k ih =>
    intro hk
    have hk' : k < ls.length := hk
    rw [catTo, ih (by omega), List.take_succ_eq_append_getElem hk', List.flatten_append, List.getD_eq_getElem?_getD, List.getElem?_eq_getElem hk']
    simp
theorem concat_n (A : Option Addr) (c n : Nat) (ls : List (List UInt8)) (hn : ls.length = n) (w : World) (h : RBB w A ls) (hn2 : n ≤ 100000) (F : List UInt8) (hF : ls.flatten = F) (htot : F.length ≤ 100000) :
    Calls Try.prog 33 #[.slice A n c] w fun e w' => ∃ v, e = .returned v ∧ OwnB w.heap.size 5 w' v F ∧ Below w.heap.size w w' := by
  subst hn
  have e : catTo ls ls.length = F := by rw [catTo_flat _ _ (Nat.le_refl _), List.take_length, hF]
  have := concat_calls A c ls w h (by omega) (by rw [e]; omega)
  rw [e] at this
  exact this

theorem RB.lit (w : World) (e : TypeId) (l : List UInt8) (hm : l.length ≤ 1000000) : RB (w.alloc (.cells (l.map vb).toArray e)) (some ⟨w.heap.size, 0, none⟩) l := by
  obtain ⟨A, c, hv, hr, _⟩ := (OwnB.lit w.heap.size e w l (Nat.le_refl _) (by simp only [maxLen]; omega)).form
  injection hv with ea
  rw [ea]
  exact hr
theorem RB.lit4 (w : World) (e : TypeId) (s d fl : Nat) (hs : s < 256) (hd : d < 256) (hf : fl < 256) :
    RB (w.alloc (.cells #[.int .u8 70, .int .u8 (s : Int), .int .u8 (d : Int), .int .u8 (fl : Int)] e)) (some ⟨w.heap.size, 0, none⟩) [70, UInt8.ofNat s, UInt8.ofNat d, UInt8.ofNat fl] := by
  have h := RB.lit w e [70, UInt8.ofNat s, UInt8.ofNat d, UInt8.ofNat fl] (by simp)
  have e1 : ([70, UInt8.ofNat s, UInt8.ofNat d, UInt8.ofNat fl].map vb).toArray = #[.int .u8 70, .int .u8 (s : Int), .int .u8 (d : Int), .int .u8 (fl : Int)] := by
    simp only [List.map_cons, List.map_nil, vb_ofNat, Nat.mod_eq_of_lt hs, Nat.mod_eq_of_lt hd, Nat.mod_eq_of_lt hf]
    rfl
  rwa [e1] at h

/-- Slices as values, with what they read. -/
def RBs (w : World) : List Value → List (List UInt8) → Prop
  | [], [] => True
  | v :: vs, l :: ls => (∃ A c, v = .slice A l.length c ∧ RB w A l ∧ l.length ≤ c) ∧ RBs w vs ls
  | _, _ => False
theorem RBs.nil (w : World) : RBs w [] [] := trivial
theorem RBs.cons {w : World} {A : Option Addr} {n c : Nat} {l : List UInt8} {vs : List Value} {ls : List (List UInt8)} (hn : l.length = n) (h : RB w A l) (hc : n ≤ c) (k : RBs w vs ls) : RBs w (.slice A n c :: vs) (l :: ls) := by
  subst hn
  exact ⟨⟨A, c, rfl, h, hc⟩, k⟩
theorem RBs.get {w : World} : ∀ {vs : List Value} {ls : List (List UInt8)}, RBs w vs ls → ∀ i, i < ls.length → ∃ A c, vs[i]? = some (.slice A (ls.getD i []).length c) ∧ RB w A (ls.getD i []) ∧ (ls.getD i []).length ≤ c
  | [], [], _, i, h => by simp at h
  | [], _ :: _, h, _, _ => h.elim
  | _ :: _, [], h, _, _ => h.elim
  | v :: vs, l :: ls, h, 0, _ => by
    obtain ⟨⟨A, c, rfl, a, b⟩, _⟩ := h
    exact ⟨A, c, rfl, a, b⟩
  | v :: vs, l :: ls, h, i + 1, hi => by
    have := RBs.get h.2 i (by simpa using hi)
    simpa using this
theorem RBs.rbb (w : World) (e : TypeId) {vs : List Value} {ls : List (List UInt8)} (h : RBs w vs ls) : RBB (w.alloc (.cells vs.toArray e)) (some ⟨w.heap.size, 0, none⟩) ls := fun i hi => by
  obtain ⟨A, c, hv, hr, hc⟩ := h.get i hi
  exact ⟨w.heap.size, 0, A, c, rfl, by rw [Nat.zero_add]; exact (BK.new w e vs).cell hv, hr.ext (ext_alloc w _), hc⟩

theorem copy_src {w : World} {A : Option Addr} {l : List UInt8} (h : RB w A l) (h0 : 0 < l.length) : ∃ ad, A = some ad ∧ ∀ j v, (l.map vb)[j]? = some v → w.cell? (ad.add j) = some v := by
  obtain ⟨b, o, e, _⟩ := h 0 h0
  refine ⟨⟨b, o, none⟩, e, fun j v hv => ?_⟩
  obtain ⟨b2, o2, e2, hc⟩ := RV.of_RB h j v hv
  rw [e] at e2
  cases e2
  have : (⟨b, o, none⟩ : Addr).add j = ⟨b, o + j, none⟩ := by unfold Addr.add; split <;> simp_all
  rw [this]
  exact hc

theorem splice_app {α : Type} (a b : List α) (k : Nat) (cs : List α) (h : k + cs.length ≤ a.length) : splice (a ++ b) k cs = splice a k cs ++ b := by
  unfold splice
  rw [List.take_append_of_le_length (by omega), List.drop_append_of_le_length (by omega)]
  simp
theorem take_splice {α : Type} (l : List α) (k : Nat) (cs : List α) (L : Nat) (h : k + cs.length ≤ L) (h2 : L ≤ l.length) : (splice l k cs).take L = splice (l.take L) k cs := by
  have := splice_app (l.take L) (l.drop L) k cs (by rw [List.length_take]; omega)
  rw [List.take_append_drop] at this
  rw [this, List.take_left' (by rw [length_splice _ _ _ (by rw [List.length_take]; omega), List.length_take]; omega)]
theorem splice_mid (f z t c : List UInt8) {k : Nat} (hf : f.length = k) (hz : z.length = c.length) : splice ((f ++ z ++ t).map vb) k (c.map vb) = (f ++ c ++ t).map vb := by
  subst hf
  unfold splice
  rw [List.length_map, ← hz, ← List.map_take, ← List.map_drop, ← List.map_append, ← List.map_append]
  congr 1
  rw [List.append_assoc f z t, List.take_left, ← List.drop_drop, List.drop_left, List.drop_left, List.append_assoc]

/-! ### plain -/
def frontL (s d sp dp seq ack fl wn : Nat) : List UInt8 := [70, UInt8.ofNat s, UInt8.ofNat d, UInt8.ofNat fl] ++ be sp 2 ++ be dp 2 ++ be seq 4 ++ be ack 4 ++ be wn 2
def tailL (pr og : Nat) (data : List UInt8) : List UInt8 := [UInt8.ofNat (optL pr og).length, 0] ++ optL pr og ++ data
def blankL (s d sp dp seq ack fl wn pr og : Nat) (data : List UInt8) : List UInt8 := frontL s d sp dp seq ack fl wn ++ be 0 2 ++ tailL pr og data
def putL (s d sp dp seq ack fl wn pr og : Nat) (data : List UInt8) : List UInt8 :=
  frontL s d sp dp seq ack fl wn ++ be (inetN [blankL s d sp dp seq ack fl wn pr og data]) 2 ++ tailL pr og data
theorem parts_flat (s d sp dp seq ack fl wn pr og : Nat) (data : List UInt8) : [[70, UInt8.ofNat s, UInt8.ofNat d, UInt8.ofNat fl], be sp 2, be dp 2, be seq 4, be ack 4, be wn 2, be 0 2, [UInt8.ofNat (optL pr og).length, 0], optL pr og, data].flatten = blankL s d sp dp seq ack fl wn pr og data := by
  simp [blankL, frontL, tailL, List.append_assoc]
theorem optL_length (pr og : Nat) : (optL pr og).length = (if 0 < pr then 10 else 0) + (if 0 < og then 4 else 0) := by unfold optL; rw [List.length_append, prL_length, ogL_length]
theorem optL_le (pr og : Nat) : (optL pr og).length ≤ 14 := by rw [optL_length]; split <;> split <;> omega
theorem frontL_length (s d sp dp seq ack fl wn : Nat) : (frontL s d sp dp seq ack fl wn).length = 18 := by simp [frontL, be_length]
theorem tailL_length (pr og : Nat) (data : List UInt8) : (tailL pr og data).length = 2 + (optL pr og).length + data.length := by simp [tailL]; omega
theorem blankL_length (s d sp dp seq ack fl wn pr og : Nat) (data : List UInt8) : (blankL s d sp dp seq ack fl wn pr og data).length = 22 + (optL pr og).length + data.length := by
  unfold blankL; rw [List.length_append, List.length_append, frontL_length, tailL_length, be_length]; omega
theorem putL_length (s d sp dp seq ack fl wn pr og : Nat) (data : List UInt8) : (putL s d sp dp seq ack fl wn pr og data).length = 22 + (optL pr og).length + data.length := by
  unfold putL; rw [List.length_append, List.length_append, frontL_length, tailL_length, be_length]; omega

set_option maxRecDepth 100000 in
set_option maxHeartbeats 2000000 in
theorem put_bad (p : Pk) (A : Option Addr) (n c : Nat) (w : World) (hp : okN p n = false) :
    Calls Try.prog 14 #[.agg (p.cs A n c).toArray] w fun e w' => e = .returned (.tuple #[.slice none 0 0, .int .i64 40]) ∧ Below w.heap.size w w' := by
  have HC : Hid (∀ W : World, Calls Try.prog 15 #[.agg (p.cs A n c).toArray] W fun e w' => e = .returned (.int .i64 40) ∧ Below W.heap.size W w') := Lib.hid fun W => by
    have := check_n p A n c W
    rw [hp] at this
    exact this
  clear hp
  obtain ⟨src, dst, sp, dp, seq, ack, fl, wn, pr, og, data⟩ := p
  simp only [Pk.cs] at HC ⊢
  go_enter Try.func14, Try.ntmps14
  go_wp2_with fail
  refine (HC.out _).mono ?_
  rintro e w1 ⟨rfl, hb⟩
  have HB := Lib.hid (ext_trans (ext_alloc w _) hb)
  clear hb
  go_wp2
  go_ret2
  exact ⟨rfl, HB.out⟩

set_option maxRecDepth 100000 in
set_option maxHeartbeats 2000000 in
theorem put_ok (s d sp dp seq ack fl wn pr og : Nat) (data : List UInt8) (A : Option Addr) (n c : Nat) (hn : data.length = n) (w : World) (h : RB w A data) (hnc : n ≤ c)
    (hs : 1 ≤ s ∧ s ≤ 4) (hd : 1 ≤ d ∧ d ≤ 4) (hsd : s ≠ d) (hsp : 1 ≤ sp ∧ sp ≤ 65535) (hdp : 1 ≤ dp ∧ dp ≤ 65535) (hseq : seq < 4294967296) (hack : ack < 4294967296) (hfl : fl ≤ 15) (hwn : wn ≤ 65535) (hpr : pr ≤ 1099511627776) (hog : og ≤ 65535) (hn128 : n ≤ 128) :
    Calls Try.prog 14 #[.agg #[.int .i64 (s : Int), .int .i64 (d : Int), .int .i64 (sp : Int), .int .i64 (dp : Int), .int .u32 (seq : Int), .int .u32 (ack : Int), .int .i64 (fl : Int), .int .i64 (wn : Int), .int .i64 (pr : Int), .int .i64 (og : Int), .slice A n c]] w fun e w' =>
      ∃ R m cR, e = .returned (.tuple #[.slice R m cR, .int .i64 0]) ∧ m = (putL s d sp dp seq ack fl wn pr og data).length ∧ OwnB w.heap.size 5 w' (.slice R m cR) (putL s d sp dp seq ack fl wn pr og data) ∧ Below w.heap.size w w' := by
  have H := Lib.hid h
  have HN := Lib.hid hn
  have HC : Hid (∀ W : World, Calls Try.prog 15 #[.agg #[.int .i64 (s : Int), .int .i64 (d : Int), .int .i64 (sp : Int), .int .i64 (dp : Int), .int .u32 (seq : Int), .int .u32 (ack : Int), .int .i64 (fl : Int), .int .i64 (wn : Int), .int .i64 (pr : Int), .int .i64 (og : Int), .slice A n c]] W fun e w' => e = .returned (.int .i64 0) ∧ Below W.heap.size W w') := Lib.hid fun W => by
    have := check_n ⟨s, d, sp, dp, seq, ack, fl, wn, pr, og, data⟩ A n c W
    rw [show okN ⟨s, d, sp, dp, seq, ack, fl, wn, pr, og, data⟩ n = true by unfold okN; dsimp only; simp <;> omega] at this
    exact this
  obtain ⟨cs, hcs⟩ : ∃ cs : List Value, [.int .i64 (s : Int), .int .i64 (d : Int), .int .i64 (sp : Int), .int .i64 (dp : Int), .int .u32 (seq : Int), .int .u32 (ack : Int), .int .i64 (fl : Int), .int .i64 (wn : Int), .int .i64 (pr : Int), .int .i64 (og : Int), .slice A n c] = cs := ⟨_, rfl⟩
  have HCS := Lib.hid hcs
  clear h hn hcs
  go_enter Try.func14, Try.ntmps14
  go_wp2_with fail
  refine (HC.out _).mono ?_
  rintro e w1 ⟨rfl, hb⟩
  have HK := Lib.hid ((BK.new w 25 cs).ext (by rw [← HCS.out]; exact hb))
  have HB := Lib.hid (ext_trans (ext_alloc w _) hb)
  clear hb
  obtain ⟨k, hk⟩ : ∃ k, w.heap.size = k := ⟨_, rfl⟩
  rw [hk] at HK ⊢
  have HKK := Lib.hid hk
  have hk1 : k < w1.heap.size := HK.out.lt
  clear hk
  have c0 : w1.cell? ⟨k, 0, none⟩ = some (.int .i64 (s : Int)) := HK.out.cell (by rw [← HCS.out]; rfl)
  have c1 : w1.cell? ⟨k, 1, none⟩ = some (.int .i64 (d : Int)) := HK.out.cell (by rw [← HCS.out]; rfl)
  have c2 : w1.cell? ⟨k, 2, none⟩ = some (.int .i64 (sp : Int)) := HK.out.cell (by rw [← HCS.out]; rfl)
  have c3 : w1.cell? ⟨k, 3, none⟩ = some (.int .i64 (dp : Int)) := HK.out.cell (by rw [← HCS.out]; rfl)
  have c4 : w1.cell? ⟨k, 4, none⟩ = some (.int .u32 (seq : Int)) := HK.out.cell (by rw [← HCS.out]; rfl)
  have c5 : w1.cell? ⟨k, 5, none⟩ = some (.int .u32 (ack : Int)) := HK.out.cell (by rw [← HCS.out]; rfl)
  have c6 : w1.cell? ⟨k, 6, none⟩ = some (.int .i64 (fl : Int)) := HK.out.cell (by rw [← HCS.out]; rfl)
  have c7 : w1.cell? ⟨k, 7, none⟩ = some (.int .i64 (wn : Int)) := HK.out.cell (by rw [← HCS.out]; rfl)
  have c8 : w1.cell? ⟨k, 8, none⟩ = some (.int .i64 (pr : Int)) := HK.out.cell (by rw [← HCS.out]; rfl)
  have c9 : w1.cell? ⟨k, 9, none⟩ = some (.int .i64 (og : Int)) := HK.out.cell (by rw [← HCS.out]; rfl)
  have c10 : w1.cell? ⟨k, 10, none⟩ = some (.slice A n c) := HK.out.cell (by rw [← HCS.out]; rfl)
  go_wp2_with fail
  have hopt := options_n cs pr og (by rw [← HCS.out]; rfl) (by rw [← HCS.out]; rfl) (by rw [← HCS.out]; rfl) hpr hog w1
  rw [← HCS.out] at hopt
  refine hopt.mono ?_
  rintro e w2 ⟨Ro, co, rfl, hco, hro, hb⟩
  have HK2 := Lib.hid (HK.out.ext hb)
  have HB2 := Lib.hid (ext_trans HB.out hb)
  have HRO := Lib.hid hro
  obtain ⟨no, hno⟩ : ∃ n, (optL pr og).length = n := ⟨_, rfl⟩
  have hno14 : no ≤ 14 := by rw [← hno]; exact optL_le pr og
  rw [hno] at hco ⊢
  have HNO := Lib.hid hno
  clear hopt hro hb hno c0 c1 c2 c3 c4 c5 c6 c7 c8 c9 c10
  have c0 : w2.cell? ⟨k, 0, none⟩ = some (.int .i64 (s : Int)) := HK2.out.cell (by rw [← HCS.out]; rfl)
  have c1 : w2.cell? ⟨k, 1, none⟩ = some (.int .i64 (d : Int)) := HK2.out.cell (by rw [← HCS.out]; rfl)
  have c2 : w2.cell? ⟨k, 2, none⟩ = some (.int .i64 (sp : Int)) := HK2.out.cell (by rw [← HCS.out]; rfl)
  have c3 : w2.cell? ⟨k, 3, none⟩ = some (.int .i64 (dp : Int)) := HK2.out.cell (by rw [← HCS.out]; rfl)
  have c4 : w2.cell? ⟨k, 4, none⟩ = some (.int .u32 (seq : Int)) := HK2.out.cell (by rw [← HCS.out]; rfl)
  have c5 : w2.cell? ⟨k, 5, none⟩ = some (.int .u32 (ack : Int)) := HK2.out.cell (by rw [← HCS.out]; rfl)
  have c6 : w2.cell? ⟨k, 6, none⟩ = some (.int .i64 (fl : Int)) := HK2.out.cell (by rw [← HCS.out]; rfl)
  have c7 : w2.cell? ⟨k, 7, none⟩ = some (.int .i64 (wn : Int)) := HK2.out.cell (by rw [← HCS.out]; rfl)
  have c8 : w2.cell? ⟨k, 8, none⟩ = some (.int .i64 (pr : Int)) := HK2.out.cell (by rw [← HCS.out]; rfl)
  have c9 : w2.cell? ⟨k, 9, none⟩ = some (.int .i64 (og : Int)) := HK2.out.cell (by rw [← HCS.out]; rfl)
  have c10 : w2.cell? ⟨k, 10, none⟩ = some (.slice A n c) := HK2.out.cell (by rw [← HCS.out]; rfl)
  have e0 : IntKind.u8.wrap (s : Int) = (s : Int) := IntWalk.u8_in _ (by omega)
  have e1 : IntKind.u8.wrap (d : Int) = (d : Int) := IntWalk.u8_in _ (by omega)
  have e2 : IntKind.u8.wrap (fl : Int) = (fl : Int) := IntWalk.u8_in _ (by omega)
  go_upto_region 6 with fail
  obtain ⟨gl, hgl⟩ : ∃ x, w2.heap.size = x := ⟨_, rfl⟩
  have hl4 := RB.lit4 w2 5 s d fl (by omega) (by omega) (by omega)
  have ha4 := ext_alloc w2 (.cells #[.int .u8 70, .int .u8 (s : Int), .int .u8 (d : Int), .int .u8 (fl : Int)] 5)
  have hb4 := ext_trans HB2.out ha4
  rw [hgl] at hl4 ⊢
  refine name_world (fun w3 => BK w3 k 25 cs ∧ RB w3 (some ⟨gl, 0, none⟩) [70, UInt8.ofNat s, UInt8.ofNat d, UInt8.ofNat fl] ∧ RB w3 Ro (optL pr og) ∧ RB w3 A data ∧ Below w.heap.size w w3)
    ⟨HK2.out.ext ha4, hl4, HRO.out.ext ha4, H.out.ext hb4, hb4⟩ ?_
  clear hl4 ha4 hb4 hgl c0 c1 c2 c3 c4 c5 c6 c7 c8 c9 c10
  rintro w3 ⟨hK3, hl3, ho3, hd3, hb3⟩
  have HK3 := Lib.hid hK3
  have HL3 := Lib.hid hl3
  have HO3 := Lib.hid ho3
  have HD3 := Lib.hid hd3
  have HB3 := Lib.hid hb3
  clear hK3 hl3 ho3 hd3 hb3 HK2 HRO HB2 HK HB
  refine wp_region_facts0 [[], [], [1], [1, 2], [], [4], [4, 5], [], [7], [7, 8], [], [10], [10, 11], [], [13], [13, 14], [], [], [17], [17, 18], [17, 18, 19], [], [], [22], [0, 1, 2, 3, 4, 5, 6, 7, 8, 9, 10, 11, 12, 13, 14, 15, 16, 17, 18, 19, 20, 21, 22, 23], [0, 1, 2, 3, 4, 5, 6, 7, 8, 9, 10, 11, 12, 13, 14, 15, 16, 17, 18, 19, 20, 21, 22, 23, 24], [0, 1, 2, 3, 4, 5, 6, 7, 8, 9, 10, 11, 12, 13, 14, 15, 16, 17, 18, 19, 20, 21, 22, 23, 24, 25]]
    [fun u _ => u = .slice (some ⟨gl, 0, none⟩) 4 4,
     fun u _ => u = .pointer (some ⟨k, 2, none⟩),
     fun u _ => u = .int .i64 (sp : Int),
     fun u w => ∃ A1 c1, u = .slice A1 2 c1 ∧ 2 ≤ c1 ∧ RB w A1 (be sp 2),
     fun u _ => u = .pointer (some ⟨k, 3, none⟩),
     fun u _ => u = .int .i64 (dp : Int),
     fun u w => ∃ A1 c1, u = .slice A1 2 c1 ∧ 2 ≤ c1 ∧ RB w A1 (be dp 2),
     fun u _ => u = .pointer (some ⟨k, 4, none⟩),
     fun u _ => u = .int .u32 (seq : Int),
     fun u w => ∃ A1 c1, u = .slice A1 4 c1 ∧ 4 ≤ c1 ∧ RB w A1 (be seq 4),
     fun u _ => u = .pointer (some ⟨k, 5, none⟩),
     fun u _ => u = .int .u32 (ack : Int),
     fun u w => ∃ A1 c1, u = .slice A1 4 c1 ∧ 4 ≤ c1 ∧ RB w A1 (be ack 4),
     fun u _ => u = .pointer (some ⟨k, 7, none⟩),
     fun u _ => u = .int .i64 (wn : Int),
     fun u w => ∃ A1 c1, u = .slice A1 2 c1 ∧ 2 ≤ c1 ∧ RB w A1 (be wn 2),
     fun u w => ∃ A1 c1, u = .slice A1 2 c1 ∧ 2 ≤ c1 ∧ RB w A1 (be 0 2),
     fun u _ => u = .slice Ro no co,
     fun u _ => u = .int .i64 (no : Int),
     fun u _ => u = .int .u8 (no : Int),
     fun u w => ∃ A1, u = .slice A1 2 2 ∧ RB w A1 [UInt8.ofNat no, 0],
     fun u _ => u = .slice Ro no co,
     fun u _ => u = .pointer (some ⟨k, 10, none⟩),
     fun u _ => u = .slice A n c,
     fun u w => ∃ A1, u = .slice A1 10 10 ∧ RBB w A1 [[70, UInt8.ofNat s, UInt8.ofNat d, UInt8.ofNat fl], be sp 2, be dp 2, be seq 4, be ack 4, be wn 2, be 0 2, [UInt8.ofNat no, 0], optL pr og, data],
     fun u w => ∃ R cR, u = .slice R (blankL s d sp dp seq ack fl wn pr og data).length cR ∧ OwnB w3.heap.size 5 w (.slice R (blankL s d sp dp seq ack fl wn pr og data).length cR) (blankL s d sp dp seq ack fl wn pr og data),
     fun u w => ∃ R cR, u = .slice R (blankL s d sp dp seq ack fl wn pr og data).length cR ∧ OwnB w3.heap.size 5 w (.slice R (blankL s d sp dp seq ack fl wn pr og data).length cR) (blankL s d sp dp seq ack fl wn pr og data)]
    (fun u => ⟨#[Value.agg #[Value.int IntKind.i64 (s : Int), Value.int IntKind.i64 (d : Int), Value.int IntKind.i64 (sp : Int), Value.int IntKind.i64 (dp : Int), Value.int IntKind.u32 (seq : Int), Value.int IntKind.u32 (ack : Int), Value.int IntKind.i64 (fl : Int), Value.int IntKind.i64 (wn : Int), Value.int IntKind.i64 (pr : Int), Value.int IntKind.i64 (og : Int), Value.slice A n c], Value.pointer (some { block := k, off := 0 }), Value.slice none 0 0, Value.int IntKind.i64 0, Value.int IntKind.i64 0, Value.slice Ro no co, u 26, Value.agg #[Value.int IntKind.i64 (s : Int), Value.int IntKind.i64 (d : Int), Value.int IntKind.i64 (sp : Int), Value.int IntKind.i64 (dp : Int), Value.int IntKind.u32 (seq : Int), Value.int IntKind.u32 (ack : Int), Value.int IntKind.i64 (fl : Int), Value.int IntKind.i64 (wn : Int), Value.int IntKind.i64 (pr : Int), Value.int IntKind.i64 (og : Int), Value.slice A n c], Value.int IntKind.i64 0, Value.int IntKind.i64 0, Value.bool false, undef, Value.agg #[Value.int IntKind.i64 (s : Int), Value.int IntKind.i64 (d : Int), Value.int IntKind.i64 (sp : Int), Value.int IntKind.i64 (dp : Int), Value.int IntKind.u32 (seq : Int), Value.int IntKind.u32 (ack : Int), Value.int IntKind.i64 (fl : Int), Value.int IntKind.i64 (wn : Int), Value.int IntKind.i64 (pr : Int), Value.int IntKind.i64 (og : Int), Value.slice A n c], Value.slice Ro no co, Value.pointer (some { block := k, off := 0 }), Value.int IntKind.i64 (s : Int), Value.int IntKind.u8 (s : Int), Value.pointer (some { block := k, off := 1 }), Value.int IntKind.i64 (d : Int), Value.int IntKind.u8 (d : Int), Value.pointer (some { block := k, off := 6 }), Value.int IntKind.i64 (fl : Int), Value.int IntKind.u8 (fl : Int), Value.slice (some { block := gl, off := 0 }) 4 4, u 0, u 1, u 2, u 3, u 4, u 5, u 6, u 7, u 8, u 9, u 10, u 11, u 12, u 13, u 14, u 15, u 16, u 17, u 18, u 19, u 20, u 21, u 22, u 23, u 24, u 25, undef, undef, undef, undef, undef, undef, undef, undef, undef], []⟩)
    (fun j => [undef, undef, undef, undef, undef, undef, undef, undef, undef, undef, undef, undef, undef, undef, undef, undef, undef, undef, undef, undef, undef, undef, undef, undef, undef, undef, Value.slice (some { block := gl, off := 0 }) 4 4].getD j undef) (by kernel_rfl) (by kernel_rfl) (by kernel_rfl) rfl ⟨Mono.eq _, Mono.eq _, Mono.eq _, fun _ _ _ e h => h.imp fun _ x => x.imp fun _ y => ⟨y.1, y.2.1, y.2.2.ext e⟩, Mono.eq _, Mono.eq _, fun _ _ _ e h => h.imp fun _ x => x.imp fun _ y => ⟨y.1, y.2.1, y.2.2.ext e⟩, Mono.eq _, Mono.eq _, fun _ _ _ e h => h.imp fun _ x => x.imp fun _ y => ⟨y.1, y.2.1, y.2.2.ext e⟩, Mono.eq _, Mono.eq _, fun _ _ _ e h => h.imp fun _ x => x.imp fun _ y => ⟨y.1, y.2.1, y.2.2.ext e⟩, Mono.eq _, Mono.eq _, fun _ _ _ e h => h.imp fun _ x => x.imp fun _ y => ⟨y.1, y.2.1, y.2.2.ext e⟩, fun _ _ _ e h => h.imp fun _ x => x.imp fun _ y => ⟨y.1, y.2.1, y.2.2.ext e⟩, Mono.eq _, Mono.eq _, Mono.eq _, fun _ _ _ e h => h.imp fun _ x => ⟨x.1, x.2.ext e⟩, Mono.eq _, Mono.eq _, Mono.eq _, fun _ _ _ e h => h.imp fun _ x => ⟨x.1, x.2.ext e⟩, fun _ _ _ e h => h.imp fun _ x => x.imp fun _ y => ⟨y.1, y.2.ext e⟩, fun _ _ _ e h => h.imp fun _ x => x.imp fun _ y => ⟨y.1, y.2.ext e⟩, trivial⟩ ?_ ?_
  · refine ⟨?_, ?_, ?_, ?_, ?_, ?_, ?_, ?_, ?_, ?_, ?_, ?_, ?_, ?_, ?_, ?_, ?_, ?_, ?_, ?_, ?_, ?_, ?_, ?_, ?_, ?_, ?_, trivial⟩
    · intro u w2 hb hF hU J K hJ hK
      have HB2 := Lib.hid hb
      have HF := Lib.hid hF
      have g26 : u 26 = Value.slice (some { block := gl, off := 0 }) 4 4 := hU 26 (by decide)
      clear hb hF hU
      go_wp2
      exact hJ _ _ _ (Below.refl _ _) (rfl) (by simp [setU, g26] <;> omega)
    · intro u w2 hb hF hU J K hJ hK
      have HB2 := Lib.hid hb
      have HF := Lib.hid hF
      clear hb hF hU
      go_wp2
      exact hJ _ _ _ (Below.refl _ _) (rfl) (by simp [setU] <;> omega)
    · intro u w2 hb hF hU J K hJ hK
      have HB2 := Lib.hid hb
      have HF := Lib.hid hF
      clear hb hF hU
      have f1 : u 1 = .pointer (some ⟨k, 2, none⟩) := HF.out 1 (by decide)
      have cc : w2.cell? ⟨k, 2, none⟩ = some (.int .i64 (sp : Int)) := (HK3.out.ext HB2.out).cell (by rw [← HCS.out]; rfl)
      go_wp2
      exact hJ _ _ _ (Below.refl _ _) (rfl) (by simp [setU, f1] <;> omega)
    · intro u w2 hb hF hU J K hJ hK
      have HB2 := Lib.hid hb
      have HF := Lib.hid hF
      clear hb hF hU
      have f2 : u 2 = .int .i64 (sp : Int) := HF.out 2 (by decide)
      go_wp2_with fail
      refine (two_calls sp (by omega) w2).mono ?_
      rintro e w4 ⟨A1, c1, rfl, hc1, hr1, hb4⟩
      have HR1 := Lib.hid hr1
      have HB4 := Lib.hid hb4
      clear hr1 hb4
      go_wp2
      exact hJ _ _ _ (HB4.out) (⟨A1, c1, rfl, hc1, HR1.out⟩) (by simp [setU, f2] <;> omega)
    · intro u w2 hb hF hU J K hJ hK
      have HB2 := Lib.hid hb
      have HF := Lib.hid hF
      clear hb hF hU
      go_wp2
      exact hJ _ _ _ (Below.refl _ _) (rfl) (by simp [setU] <;> omega)
    · intro u w2 hb hF hU J K hJ hK
      have HB2 := Lib.hid hb
      have HF := Lib.hid hF
      clear hb hF hU
      have f4 : u 4 = .pointer (some ⟨k, 3, none⟩) := HF.out 4 (by decide)
      have cc : w2.cell? ⟨k, 3, none⟩ = some (.int .i64 (dp : Int)) := (HK3.out.ext HB2.out).cell (by rw [← HCS.out]; rfl)
      go_wp2
      exact hJ _ _ _ (Below.refl _ _) (rfl) (by simp [setU, f4] <;> omega)
    · intro u w2 hb hF hU J K hJ hK
      have HB2 := Lib.hid hb
      have HF := Lib.hid hF
      clear hb hF hU
      have f5 : u 5 = .int .i64 (dp : Int) := HF.out 5 (by decide)
      go_wp2_with fail
      refine (two_calls dp (by omega) w2).mono ?_
      rintro e w4 ⟨A1, c1, rfl, hc1, hr1, hb4⟩
      have HR1 := Lib.hid hr1
      have HB4 := Lib.hid hb4
      clear hr1 hb4
      go_wp2
      exact hJ _ _ _ (HB4.out) (⟨A1, c1, rfl, hc1, HR1.out⟩) (by simp [setU, f5] <;> omega)
    · intro u w2 hb hF hU J K hJ hK
      have HB2 := Lib.hid hb
      have HF := Lib.hid hF
      clear hb hF hU
      go_wp2
      exact hJ _ _ _ (Below.refl _ _) (rfl) (by simp [setU] <;> omega)
    · intro u w2 hb hF hU J K hJ hK
      have HB2 := Lib.hid hb
      have HF := Lib.hid hF
      clear hb hF hU
      have f7 : u 7 = .pointer (some ⟨k, 4, none⟩) := HF.out 7 (by decide)
      have cc : w2.cell? ⟨k, 4, none⟩ = some (.int .u32 (seq : Int)) := (HK3.out.ext HB2.out).cell (by rw [← HCS.out]; rfl)
      go_wp2
      exact hJ _ _ _ (Below.refl _ _) (rfl) (by simp [setU, f7] <;> omega)
    · intro u w2 hb hF hU J K hJ hK
      have HB2 := Lib.hid hb
      have HF := Lib.hid hF
      clear hb hF hU
      have f8 : u 8 = .int .u32 (seq : Int) := HF.out 8 (by decide)
      go_wp2_with fail
      refine (four_calls seq hseq w2).mono ?_
      rintro e w4 ⟨A1, c1, rfl, hc1, hr1, hb4⟩
      have HR1 := Lib.hid hr1
      have HB4 := Lib.hid hb4
      clear hr1 hb4
      go_wp2
      exact hJ _ _ _ (HB4.out) (⟨A1, c1, rfl, hc1, HR1.out⟩) (by simp [setU, f8] <;> omega)
    · intro u w2 hb hF hU J K hJ hK
      have HB2 := Lib.hid hb
      have HF := Lib.hid hF
      clear hb hF hU
      go_wp2
      exact hJ _ _ _ (Below.refl _ _) (rfl) (by simp [setU] <;> omega)
    · intro u w2 hb hF hU J K hJ hK
      have HB2 := Lib.hid hb
      have HF := Lib.hid hF
      clear hb hF hU
      have f10 : u 10 = .pointer (some ⟨k, 5, none⟩) := HF.out 10 (by decide)
      have cc : w2.cell? ⟨k, 5, none⟩ = some (.int .u32 (ack : Int)) := (HK3.out.ext HB2.out).cell (by rw [← HCS.out]; rfl)
      go_wp2
      exact hJ _ _ _ (Below.refl _ _) (rfl) (by simp [setU, f10] <;> omega)
    · intro u w2 hb hF hU J K hJ hK
      have HB2 := Lib.hid hb
      have HF := Lib.hid hF
      clear hb hF hU
      have f11 : u 11 = .int .u32 (ack : Int) := HF.out 11 (by decide)
      go_wp2_with fail
      refine (four_calls ack hack w2).mono ?_
      rintro e w4 ⟨A1, c1, rfl, hc1, hr1, hb4⟩
      have HR1 := Lib.hid hr1
      have HB4 := Lib.hid hb4
      clear hr1 hb4
      go_wp2
      exact hJ _ _ _ (HB4.out) (⟨A1, c1, rfl, hc1, HR1.out⟩) (by simp [setU, f11] <;> omega)
    · intro u w2 hb hF hU J K hJ hK
      have HB2 := Lib.hid hb
      have HF := Lib.hid hF
      clear hb hF hU
      go_wp2
      exact hJ _ _ _ (Below.refl _ _) (rfl) (by simp [setU] <;> omega)
    · intro u w2 hb hF hU J K hJ hK
      have HB2 := Lib.hid hb
      have HF := Lib.hid hF
      clear hb hF hU
      have f13 : u 13 = .pointer (some ⟨k, 7, none⟩) := HF.out 13 (by decide)
      have cc : w2.cell? ⟨k, 7, none⟩ = some (.int .i64 (wn : Int)) := (HK3.out.ext HB2.out).cell (by rw [← HCS.out]; rfl)
      go_wp2
      exact hJ _ _ _ (Below.refl _ _) (rfl) (by simp [setU, f13] <;> omega)
    · intro u w2 hb hF hU J K hJ hK
      have HB2 := Lib.hid hb
      have HF := Lib.hid hF
      clear hb hF hU
      have f14 : u 14 = .int .i64 (wn : Int) := HF.out 14 (by decide)
      go_wp2_with fail
      refine (two_calls wn (by omega) w2).mono ?_
      rintro e w4 ⟨A1, c1, rfl, hc1, hr1, hb4⟩
      have HR1 := Lib.hid hr1
      have HB4 := Lib.hid hb4
      clear hr1 hb4
      go_wp2
      exact hJ _ _ _ (HB4.out) (⟨A1, c1, rfl, hc1, HR1.out⟩) (by simp [setU, f14] <;> omega)
    · intro u w2 hb hF hU J K hJ hK
      have HB2 := Lib.hid hb
      have HF := Lib.hid hF
      clear hb hF hU
      go_wp2_with fail
      refine (two_calls 0 (by omega) w2).mono ?_
      rintro e w4 ⟨A1, c1, rfl, hc1, hr1, hb4⟩
      have HR1 := Lib.hid hr1
      have HB4 := Lib.hid hb4
      clear hr1 hb4
      go_wp2
      exact hJ _ _ _ (HB4.out) (⟨A1, c1, rfl, hc1, HR1.out⟩) (by simp [setU] <;> omega)
    · intro u w2 hb hF hU J K hJ hK
      have HB2 := Lib.hid hb
      have HF := Lib.hid hF
      clear hb hF hU
      go_wp2
      exact hJ _ _ _ (Below.refl _ _) (rfl) (by simp [setU] <;> omega)
    · intro u w2 hb hF hU J K hJ hK
      have HB2 := Lib.hid hb
      have HF := Lib.hid hF
      clear hb hF hU
      have f17 : u 17 = .slice Ro no co := HF.out 17 (by decide)
      go_wp2
      exact hJ _ _ _ (Below.refl _ _) (rfl) (by simp [setU, f17] <;> omega)
    · intro u w2 hb hF hU J K hJ hK
      have HB2 := Lib.hid hb
      have HF := Lib.hid hF
      clear hb hF hU
      have f18 : u 18 = .int .i64 (no : Int) := HF.out 18 (by decide)
      have e3 : IntKind.u8.wrap (no : Int) = (no : Int) := IntWalk.u8_in _ (by omega)
      go_wp2
      exact hJ _ _ _ (Below.refl _ _) (rfl) (by simp [setU, f18] <;> omega)
    · intro u w2 hb hF hU J K hJ hK
      have HB2 := Lib.hid hb
      have HF := Lib.hid hF
      clear hb hF hU
      have f19 : u 19 = .int .u8 (no : Int) := HF.out 19 (by decide)
      have hl2 := RB.lit2 w2 5 (UInt8.ofNat no) 0
      rw [show (((UInt8.ofNat no).toNat : Nat) : Int) = (no : Int) by rw [UInt8.toNat_ofNat']; omega, show (((0 : UInt8).toNat : Nat) : Int) = 0 from rfl] at hl2
      have HL2 := Lib.hid hl2
      clear hl2
      go_wp2
      exact hJ _ _ _ (ext_alloc w2 _) (⟨_, rfl, HL2.out⟩) (by simp [setU, f19] <;> omega)
    · intro u w2 hb hF hU J K hJ hK
      have HB2 := Lib.hid hb
      have HF := Lib.hid hF
      clear hb hF hU
      go_wp2
      exact hJ _ _ _ (Below.refl _ _) (rfl) (by simp [setU] <;> omega)
    · intro u w2 hb hF hU J K hJ hK
      have HB2 := Lib.hid hb
      have HF := Lib.hid hF
      clear hb hF hU
      go_wp2
      exact hJ _ _ _ (Below.refl _ _) (rfl) (by simp [setU] <;> omega)
    · intro u w2 hb hF hU J K hJ hK
      have HB2 := Lib.hid hb
      have HF := Lib.hid hF
      clear hb hF hU
      have f22 : u 22 = .pointer (some ⟨k, 10, none⟩) := HF.out 22 (by decide)
      have cc : w2.cell? ⟨k, 10, none⟩ = some (.slice A n c) := (HK3.out.ext HB2.out).cell (by rw [← HCS.out]; rfl)
      go_wp2
      exact hJ _ _ _ (Below.refl _ _) (rfl) (by simp [setU, f22] <;> omega)
    · intro u w2 hb hF hU J K hJ hK
      have HB2 := Lib.hid hb
      have HF := Lib.hid hF
      clear hb hF hU
      have f0 : u 0 = .slice (some ⟨gl, 0, none⟩) 4 4 := HF.out 0 (by decide)
      have f21 : u 21 = .slice Ro no co := HF.out 21 (by decide)
      have f23 : u 23 = .slice A n c := HF.out 23 (by decide)
      obtain ⟨Aa, ca, f3, ha, ra⟩ := HF.out 3 (by decide)
      obtain ⟨Ab, cb, f6, hb, rb⟩ := HF.out 6 (by decide)
      obtain ⟨Acc, ccc, f9, hcc, rcc⟩ := HF.out 9 (by decide)
      obtain ⟨Add, cdd, f12, hdd, rdd⟩ := HF.out 12 (by decide)
      obtain ⟨Aee, cee, f15, hee, ree⟩ := HF.out 15 (by decide)
      obtain ⟨Aff, cff, f16, hff, rff⟩ := HF.out 16 (by decide)
      obtain ⟨Ag, f20, rg⟩ := HF.out 20 (by decide)
      have hten := RBs.rbb w2 23 (RBs.cons (A := some ⟨gl, 0, none⟩) (n := 4) (c := 4) rfl (HL3.out.ext HB2.out) (Nat.le_refl _) (RBs.cons (be_length _ _) ra ha (RBs.cons (be_length _ _) rb hb (RBs.cons (be_length _ _) rcc hcc (RBs.cons (be_length _ _) rdd hdd (RBs.cons (be_length _ _) ree hee (RBs.cons (be_length _ _) rff hff (RBs.cons (n := 2) (c := 2) rfl rg (Nat.le_refl _) (RBs.cons HNO.out (HO3.out.ext HB2.out) hco (RBs.cons HN.out (HD3.out.ext HB2.out) hnc (RBs.nil w2)))))))))))
      have HTEN := Lib.hid hten
      clear hten ra rb rcc rdd ree rff rg
      go_wp2
      exact hJ _ _ _ (ext_alloc w2 _) (⟨_, rfl, HTEN.out⟩) (by simp [setU, f0, f3, f6, f9, f12, f15, f16, f20, f21, f23] <;> omega)
    · intro u w2 hb hF hU J K hJ hK
      have HB2 := Lib.hid hb
      have HF := Lib.hid hF
      clear hb hF hU
      obtain ⟨A1, f24, hr1⟩ := HF.out 24 (by decide)
      have H1 := Lib.hid hr1
      clear hr1
      go_wp2_with fail
      refine (concat_n A1 10 10 [[70, UInt8.ofNat s, UInt8.ofNat d, UInt8.ofNat fl], be sp 2, be dp 2, be seq 4, be ack 4, be wn 2, be 0 2, [UInt8.ofNat no, 0], optL pr og, data] rfl w2 H1.out (by decide) (blankL s d sp dp seq ack fl wn pr og data) (by rw [← HNO.out]; exact parts_flat s d sp dp seq ack fl wn pr og data) (by rw [blankL_length, HNO.out, HN.out]; omega)).mono ?_
      rintro e w4 ⟨v4, rfl, ho4, hb4⟩
      obtain ⟨R4, cR4, hv4, _, _, _⟩ := ho4.form
      subst hv4
      have HO4 := Lib.hid (ho4.mono HB2.out.size)
      have HB4 := Lib.hid hb4
      clear ho4 hb4
      go_wp2
      exact hJ _ _ _ (HB4.out) (⟨R4, cR4, rfl, HO4.out⟩) (by simp [setU, f24] <;> omega)
    · intro u w2 hb hF hU J K hJ hK
      have HB2 := Lib.hid hb
      have HF := Lib.hid hF
      clear hb hF hU
      obtain ⟨R4, cR4, f25, ho4⟩ := HF.out 25 (by decide)
      have HO4 := Lib.hid ho4
      clear ho4
      go_wp2
      exact hJ _ _ _ (Below.refl _ _) (⟨R4, cR4, rfl, HO4.out⟩) (by simp [setU, f25] <;> omega)
  · intro u w2 hb hF
    have HB2 := Lib.hid hb
    have f26 := hF 26 (by decide)
    clear hb
    obtain ⟨R4, cR4, e26, ho4⟩ := f26
    rw [e26]
    have HO4 := Lib.hid ho4
    clear ho4
    obtain ⟨L, hL⟩ : ∃ L, (blankL s d sp dp seq ack fl wn pr og data).length = L := ⟨_, rfl⟩
    have hL0 : L = 22 + no + n := by rw [← hL, blankL_length, HNO.out, HN.out]
    have hL1 : 22 ≤ L := by omega
    have hL2 : L ≤ 200 := by omega
    obtain ⟨BL, hBL⟩ : ∃ l, blankL s d sp dp seq ack fl wn pr og data = l := ⟨_, rfl⟩
    rw [hL, hBL] at HO4
    rw [hL]
    have hBLl : BL.length = L := by rw [← hBL]; exact hL
    have HBLl := Lib.hid hBLl
    have HBL := Lib.hid hBL
    have HL0 := Lib.hid hL0
    obtain ⟨g, c6, e6, hg1, hg2, hc61, hc62⟩ := HO4.out.block (by omega)
    rw [hBLl] at e6 hc61
    injection e6 with ea eb ec
    subst ea ec
    have hown : w2.ownsRow w3.heap.size 5 1 (.slice (some ⟨g, 0, none⟩) L cR4) BL.length (BL.map vb) := HO4.out
    rcases hown.2 with ⟨e7, _⟩ | ⟨g', cap', cur, e7, _, hgc, _, _, hcs, htake⟩
    · cases e7
    injection e7 with ea7 eb7 ec7
    injection ea7 with ea7
    injection ea7 with ea7
    subst ea7 ec7
    have HMX : Hid (cR4 ≤ maxLen) := Lib.hid hc62
    have hcm : cR4 ≤ 9223372036854775807 := by simp only [maxLen] at hc62; omega
    have HGC : Hid (w2.heap[g]? = some (.cells cur.toList.toArray 5 (0, 0))) := Lib.hid (by simpa using hgc)
    have HTK : Hid (cur.toList.take L = BL.map vb) := Lib.hid (by rw [Nat.mul_one, hBLl] at htake; exact htake)
    have HCS2 : Hid (cur.toList.length = cR4) := Lib.hid (by simpa using hcs)
    have hrb : RB w2 (some ⟨g, 0, none⟩) BL := by
      obtain ⟨_, _, e8, hr8, _⟩ := HO4.out.form
      injection e8 with ea8
      rw [ea8]
      exact hr8
    have HRB := Lib.hid hrb
    have HIN : Hid (RBB (w2.alloc (.cells #[.slice (some ⟨g, 0, none⟩) L cR4] 23)) (some ⟨w2.heap.size, 0, none⟩) [BL]) := Lib.hid (RBB.one _ _ _ _ hrb hBLl.symm hc61 _)
    obtain ⟨sm, hsm⟩ : ∃ x, inetN [BL] = x := ⟨_, rfl⟩
    have hsm1 : sm ≤ 65535 := by rw [← hsm]; unfold inetN; omega
    have HSM := Lib.hid hsm
    have hlen1 : ∀ i, i < [BL].length → ([BL].getD i []).length ≤ 140737488351232 := fun i hi => by
      have : i < 1 := hi
      obtain rfl : i = 0 := by omega
      show BL.length ≤ _
      omega
    have HLEN1 := Lib.hid hlen1
    have hgs : g < w2.heap.size := hg2
    have HAB : Hid (Below w3.heap.size w3 (w2.alloc (.cells #[.slice (some ⟨g, 0, none⟩) L cR4] 23)).drew) := Lib.hid ((HB2.out.alloc HB2.out.size _).drew)
    have z1 : (18 : Int) ≤ (L : Int) := by omega
    have z2 : ¬ (cR4 = 18) := by omega
    have z3 : IntKind.i64.wrap (sm : Int) = (sm : Int) := IntWalk.i64_in _ (by omega)
    clear hL hL0 hBLl hBL eb eb7 hown hgc hcs htake hrb hsm hlen1 hc62 hF HO4
    go_upto_region 7 with fail
    go_region_law (first
      | (go_simp; go_at_call 36; refine (inet_calls (some ⟨w2.heap.size, 0, none⟩) 1 [BL] _ ?_ (by simp) HLEN1.out).mono ?_; exact HIN.out; rintro e w5 ⟨rfl, rfl⟩; rw [HSM.out]; try dsimp only)
      | (go_simp; go_at_call 34; refine (two_calls sm (by omega) _).mono ?_; rintro e w6 ⟨A6, c6, rfl, hc6, hr6, hb6⟩; have HR6 := Lib.hid hr6; have HB6 := Lib.hid hb6; clear hr6 hb6; try dsimp only)
      | (refine step_copy_splice rfl (.tmp 51) (.tmp 56) _ _ rfl 5 Try.underlying23 (by kernel_rfl) (some ⟨g, 18, none⟩) A6 (L - 18) (cR4 - 18) 2 c6 rfl rfl g 18 cur.toList 5 ((HB6.out.block g (by first | (simp; omega) | omega)).trans (heap_old HGC.out)) ((be sm 2).map vb) (by rw [List.length_map, be_length]; exact (Nat.min_eq_left (by omega)).symm) (fun _ => ⟨rfl, copy_src HR6.out (by rw [be_length]; omega)⟩) (by rw [HCS2.out, List.length_map, be_length]; omega) (vb_one _) w3.heap.size w3 (HAB.out.trans (HB6.out.mono HAB.out.size)) hg1 ?_; intro w7 hh7 hb7))
    have hPL : (putL s d sp dp seq ack fl wn pr og data).length = L := by rw [putL_length, HNO.out, HN.out, HL0.out]
    have hsp2 : (splice cur.toList 18 ((be sm 2).map vb)).take L = (putL s d sp dp seq ack fl wn pr og data).map vb := by
      rw [take_splice _ _ _ _ (by rw [List.length_map, be_length]; omega) (by rw [HCS2.out]; exact hc61), HTK.out, ← HBL.out, blankL, splice_mid _ _ _ (be sm 2) (frontL_length _ _ _ _ _ _ _ _) (by rw [be_length, be_length]), putL, HBL.out, HSM.out]
    have hown7 : OwnB w.heap.size 5 w7 (.slice (some ⟨g, 0, none⟩) L cR4) (putL s d sp dp seq ack fl wn pr og data) := by
      refine ⟨by rw [List.length_map, Nat.mul_one], .inr ⟨g, cR4, _, by rw [hPL], Nat.le_trans HB3.out.size hg1, hh7.out, by rw [hPL]; exact hc61, HMX.out, ?_, ?_⟩⟩
      · rw [List.size_toArray, length_splice _ _ _ (by rw [HCS2.out, List.length_map, be_length]; omega), HCS2.out, Nat.mul_one]
      · rw [hPL, Nat.mul_one]; exact hsp2
    have HOWN7 := Lib.hid hown7
    have HPL := Lib.hid hPL
    have HB7 := Lib.hid (HB3.out.trans (hb7.mono HB3.out.size))
    clear hPL hsp2 hown7 hh7 hb7
    go_wp2
    go_ret2
    exact ⟨_, L, cR4, rfl, HPL.out.symm, HOWN7.out, HB7.out⟩
def putP (p : Pk) : List UInt8 := putL p.src.toNat p.dst.toNat p.sp.toNat p.dp.toNat p.seq p.ack p.fl.toNat p.wn.toNat p.pr.toNat p.og.toNat p.data
theorem put_good (p : Pk) (A : Option Addr) (n c : Nat) (hn : p.data.length = n) (w : World) (h : RB w A p.data) (hnc : n ≤ c) (hseq : p.seq < 4294967296) (hack : p.ack < 4294967296) (hok : okN p n = true) :
    Calls Try.prog 14 #[.agg (p.cs A n c).toArray] w fun e w' => ∃ R m cR, e = .returned (.tuple #[.slice R m cR, .int .i64 0]) ∧ m = (putP p).length ∧ OwnB w.heap.size 5 w' (.slice R m cR) (putP p) ∧ Below w.heap.size w w' := by
  obtain ⟨src, dst, sp, dp, seq, ack, fl, wn, pr, og, data⟩ := p
  unfold okN at hok
  simp only [Bool.and_eq_true, decide_eq_true_eq] at hok
  obtain ⟨h1, h2, h3, h4, h5, h6, h7, h8, h9, h10⟩ := hok
  obtain ⟨s, rfl⟩ := Int.eq_ofNat_of_zero_le (show 0 ≤ src by omega)
  obtain ⟨d, rfl⟩ := Int.eq_ofNat_of_zero_le (show 0 ≤ dst by omega)
  obtain ⟨sp, rfl⟩ := Int.eq_ofNat_of_zero_le (show 0 ≤ sp by omega)
  obtain ⟨dp, rfl⟩ := Int.eq_ofNat_of_zero_le (show 0 ≤ dp by omega)
  obtain ⟨fl, rfl⟩ := Int.eq_ofNat_of_zero_le (show 0 ≤ fl by omega)
  obtain ⟨wn, rfl⟩ := Int.eq_ofNat_of_zero_le (show 0 ≤ wn by omega)
  obtain ⟨pr, rfl⟩ := Int.eq_ofNat_of_zero_le (show 0 ≤ pr by omega)
  obtain ⟨og, rfl⟩ := Int.eq_ofNat_of_zero_le (show 0 ≤ og by omega)
  exact put_ok s d sp dp seq ack fl wn pr og data A n c hn w h hnc (by omega) (by omega) (by omega) (by omega) (by omega) hseq hack (by omega) (by omega) (by omega) (by omega) (by omega)
end Go.Proofs.Ytobkelpeenckeaa
