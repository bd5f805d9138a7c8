/- rabin: New, Poly, Print, Roll, Next: the walks. -/
import Derived.Test.YtmohjgcnhibkoaaRabE
import Derived.Test.YtmohjgcnhibkoaaInfoB
import Derived.Deep.QuietTactic
import Derived.BigQuiet
namespace Go.Proofs.Ytmohjgcnhibkoaa
open Go.RowKit
set_option linter.unusedVariables false

/-! ### Poly, New -/
theorem poly_nil (w : World) : Calls Try.prog 27 #[.pointer none] w fun e w' => e = .returned (.int .u64 0) ∧ w = w' := by
  go_enter Try.func27, Try.ntmps27
  go_wp2
  go_ret
  exact ⟨rfl, rfl⟩
theorem poly_calls (g p : Nat) (w : World) (h : w.cell? ⟨g, 515, none⟩ = some (.int .u64 (p : Int))) :
    Calls Try.prog 27 #[.pointer (some ⟨g, 0, none⟩)] w fun e w' => e = .returned (.int .u64 (p : Int)) ∧ w = w' := by
  go_enter Try.func27, Try.ntmps27
  go_wp2
  go_ret
  exact ⟨rfl, rfl⟩

/-- May a polynomial have a table? -/
def goodN (p : Nat) : Bool := decide (bl p = 32) && primeN p
theorem goodN_bl {p : Nat} (h : goodN p = true) : bl p = 32 := by
  unfold goodN at h
  rw [Bool.and_eq_true] at h
  exact of_decide_eq_true h.1
theorem tri_good : goodN 2147483657 = true := by
  unfold goodN
  rw [trinomial_prime]
  decide +kernel

theorem new_bad (p : Nat) (hp : U64 p) (h : goodN p = false) (w : World) :
    Calls Try.prog 26 #[.int .u64 (p : Int)] w fun e w' => e = .returned (.tuple #[.pointer none, .int .i64 50]) ∧ w = w' := by
  have HP := Lib.hid hp
  obtain ⟨n, hn⟩ : ∃ n, bl p = n := ⟨_, rfl⟩
  have HN := Lib.hid hn
  by_cases h32 : n = 32
  · have hpr : primeN p = false := by
      unfold goodN at h
      rw [hn, h32] at h
      simpa using h
    have HPR := Lib.hid hpr
    have eN : Hid ((bl p : Int) - 1 = 31) := Lib.hid (by omega)
    clear h hpr hn hp h32
    go_enter Try.func26, Try.ntmps26
    go_wp2_with fail
    refine (deg_calls p HP.out w).mono ?_
    rintro e w' ⟨rfl, rfl⟩
    rw [eN.out]
    go_wp2_with fail
    refine (prime_calls p HP.out w).mono ?_
    rintro e w' ⟨rfl, rfl⟩
    rw [HPR.out]
    go_wp2
    go_ret2
    exact ⟨rfl, rfl⟩
  · have d1 : ((n : Int) - 1 != 31) = true := by rw [bne_iff_ne]; omega
    clear h hn hp h32
    go_enter Try.func26, Try.ntmps26
    go_wp2_with fail
    refine (deg_calls p HP.out w).mono ?_
    rintro e w' ⟨rfl, rfl⟩
    rw [HN.out]
    go_wp2
    go_ret2
    exact ⟨rfl, rfl⟩

theorem tcs_setPoly (d st : Int) (p q : Nat) {up out : List Nat} (hu : up.length = 256) (ho : out.length = 256) : (tcs d st up out p).set 515 (.int .u64 (q : Int)) = tcs d st up out q := by
  rw [show (515 : Nat) = (256 + 256) + 1 + 1 + 1 by omega]
  simp only [tcs, List.set_cons_succ]
  rw [List.set_append, if_neg (by simp [hu]), List.length_map, hu, Nat.add_sub_cancel_left, List.set_append, if_neg (by simp [ho]), List.length_map, ho, Nat.sub_self]
  rfl
theorem zero_table : Try.zeroCells58 = (tcs 0 0 zs zs 0).toArray := by kernel_rfl
theorem new_table (p : Nat) : Try.zeroCells58.setIfInBounds 515 (.int .u64 (p : Int)) = (tcs 0 0 zs zs p).toArray := by
  rw [zero_table, ← tcs_setPoly 0 0 0 p zs_length zs_length]
  simp
set_option maxRecDepth 100000 in
set_option maxHeartbeats 1600000 in
theorem new_good (p : Nat) (hp : U64 p) (h : goodN p = true) (w : World) :
    Calls Try.prog 26 #[.int .u64 (p : Int)] w fun e w' => e = .returned (.tuple #[.pointer (some ⟨w.heap.size, 0, none⟩), .int .i64 0]) ∧ TabIs w' w.heap.size p ∧ Below w.heap.size w w' := by
  have HP := Lib.hid hp
  have hb := goodN_bl h
  have hpr : primeN p = true := by unfold goodN at h; rw [hb] at h; simpa using h
  have HPR := Lib.hid hpr
  have eN : Hid ((bl p : Int) - 1 = 31) := Lib.hid (by omega)
  clear h hpr hb hp
  go_enter Try.func26, Try.ntmps26
  go_wp2_with fail
  refine (deg_calls p HP.out w).mono ?_
  rintro e w' ⟨rfl, rfl⟩
  rw [eN.out]
  go_wp2_with fail
  refine (prime_calls p HP.out w).mono ?_
  rintro e w' ⟨rfl, rfl⟩
  rw [HPR.out]
  go_wp2
  go_ret2
  refine ⟨rfl, .inl ?_, ext_alloc w _⟩
  rw [new_table]
  exact BK.new w _ _

/-! ### Print -/
def prN (p : Nat) (l : List UInt8) : Nat := l.foldl (fun f x => addN p f x.toNat) 0
theorem prN_lt {p : Nat} (hp : bl p = 32) (l : List UInt8) : bl (prN p l) ≤ 31 := by
  unfold prN
  rcases List.eq_nil_or_concat l with rfl | ⟨a, b, rfl⟩
  · simp [bl_zero]
  · rw [List.concat_eq_append, List.foldl_append]
    exact addN_lt hp _ _
theorem prN_take (p : Nat) (l : List UInt8) (k : Nat) (h : k < l.length) : prN p (l.take (k + 1)) = addN p (prN p (l.take k)) (gb l k) := by
  rw [List.take_succ_eq_append_getElem h]
  unfold prN
  rw [List.foldl_append]
  simp [gb, List.getD_eq_getElem?_getD, List.getElem?_eq_getElem h]

-- left out: (*flume/rabin.Table).Print
-- left out: (*flume/rabin.Table).Print
-- left out: (*flume/rabin.Table).Print
/-! ### the roller -/
/-- The cells of a rabin.Roller: its table, the last bytes, where the next one goes, the fingerprint. -/
def rcs (t : Value) (last : List UInt8) (at_ f : Nat) : List Value := t :: (last.map vb ++ [.int .i64 (at_ : Int), .int .u64 (f : Int)])
theorem rcs_last {t : Value} {last : List UInt8} {at_ f i : Nat} (h : i < last.length) : (rcs t last at_ f)[1 + i]? = some (.int .u8 (gb last i : Int)) := by
  rw [show 1 + i = i + 1 by omega]
  simp only [rcs, List.getElem?_cons_succ]
  rw [List.getElem?_append_left (by simpa using h), gb_get last i h]
theorem rcs_at {t : Value} {last : List UInt8} {at_ f : Nat} (h : last.length = 16) : (rcs t last at_ f)[17]? = some (.int .i64 (at_ : Int)) ∧ (rcs t last at_ f)[18]? = some (.int .u64 (f : Int)) := by
  simp [rcs, h]
theorem rcs_setLast {t : Value} {last : List UInt8} {at_ f i : Nat} (x : UInt8) (h : i < last.length) : (rcs t last at_ f).set (1 + i) (.int .u8 (x.toNat : Int)) = rcs t (last.set i x) at_ f := by
  rw [show 1 + i = i + 1 by omega]
  simp only [rcs, List.set_cons_succ]
  rw [List.set_append, if_pos (by simpa using h), List.map_set]
  rfl
theorem rcs_setAt {t : Value} {last : List UInt8} {at_ f : Nat} (n : Nat) (h : last.length = 16) : (rcs t last at_ f).set 17 (.int .i64 (n : Int)) = rcs t last n f := by
  simp [rcs, h]
theorem rcs_setF {t : Value} {last : List UInt8} {at_ f : Nat} (n : Nat) (h : last.length = 16) : (rcs t last at_ f).set 18 (.int .u64 (n : Int)) = rcs t last at_ n := by
  simp [rcs, h]
def zs16 : List UInt8 := List.replicate 16 0

theorem roll_nil (w : World) : Calls Try.prog 28 #[.pointer none] w fun e w' => e = .returned (.pointer none) ∧ w = w' := by
  go_enter Try.func28, Try.ntmps28
  go_wp2_with fail
  refine (poly_nil w).mono ?_
  rintro e w' ⟨rfl, rfl⟩
  go_wp2
  go_ret
  exact ⟨rfl, rfl⟩
theorem roll_unmade (g : Nat) (w : World) (h : w.cell? ⟨g, 515, none⟩ = some (.int .u64 0)) : Calls Try.prog 28 #[.pointer (some ⟨g, 0, none⟩)] w fun e w' => e = .returned (.pointer none) ∧ w = w' := by
  go_enter Try.func28, Try.ntmps28
  go_wp2_with fail
  refine (poly_calls g 0 w h).mono ?_
  rintro e w' ⟨rfl, rfl⟩
  go_wp2
  go_ret
  exact ⟨rfl, rfl⟩
/-- A roller at r, over the table at g. -/
def RollIs (w : World) (r g : Nat) (last : List UInt8) (at_ f : Nat) : Prop := BK w r 91 (rcs (.pointer (some ⟨g, 0, none⟩)) last at_ f) ∧ last.length = 16 ∧ at_ < 16 ∧ bl f ≤ 31
theorem roll_calls (g p : Nat) (hp : bl p = 32) (w : World) (hT : TabIs w g p) :
    Calls Try.prog 28 #[.pointer (some ⟨g, 0, none⟩)] w fun e w' => ∃ r, e = .returned (.pointer (some ⟨r, 0, none⟩)) ∧ w.heap.size ≤ r ∧ RollIs w' r g zs16 0 0 ∧ TabFull w' g p ∧ w.grownBy w' (some g) := by
  have HT := Lib.hid hT
  have HP := Lib.hid hp
  have d0 : ((p : Int) == 0) = false := by
    rw [beq_eq_false_iff_ne]
    intro e
    have : p = 0 := by omega
    rw [this, bl_zero] at hp
    omega
  have hc := hT.poly
  clear hT hp
  go_enter Try.func28, Try.ntmps28
  go_wp2_with fail
  refine (poly_calls g p w hc).mono ?_
  rintro e w' ⟨rfl, rfl⟩
  go_wp2_with fail
  refine (fill_calls g p HP.out w HT.out).mono ?_
  rintro e w2 ⟨rfl, hf, hg⟩
  have HF := Lib.hid hf
  have HG := Lib.hid hg
  clear hf hg hc
  go_wp2
  go_ret
  refine ⟨w2.heap.size, rfl, HG.out.size, ⟨BK.new w2 91 (rcs (.pointer (some ⟨g, 0, none⟩)) zs16 0 0), rfl, by decide, by decide⟩, HF.out.ext (ext_alloc w2 _), grown_trans HG.out (grown_of_below (ext_alloc w2 _) _)⟩
end Go.Proofs.Ytmohjgcnhibkoaa
