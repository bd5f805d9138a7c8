/- The walk of flumeref04's Check. -/
import Derived.Test.YtjhnnnklfhbebaaPkC
namespace Go.Proofs.Ytjhnnnklfhbebaa
open Go.RowKit
set_option linter.unusedVariables false
set_option linter.unusedSimpArgs false

def rowsL (p : Pk) : List (Int × Int × Int) :=
  [(p.src, 1, 4), (p.dst, 1, 4), (p.sp, 1, 65535), (p.dp, 1, 65535), (p.fl, 0, 15), (p.wn, 0, 65535), (p.pr, 0, 1099511627776), (p.og, 0, 65535)]
def rowX (p : Pk) (j : Nat) : Int := ((rowsL p).getD j (0, 0, 0)).1
def rowLo (p : Pk) (j : Nat) : Int := ((rowsL p).getD j (0, 0, 0)).2.1
def rowHi (p : Pk) (j : Nat) : Int := ((rowsL p).getD j (0, 0, 0)).2.2
def RowsOk (p : Pk) (k : Nat) : Prop := ∀ j, j < k → rowLo p j ≤ rowX p j ∧ rowX p j ≤ rowHi p j
theorem rows_all {p : Pk} (h : RowsOk p 8) : (1 ≤ p.src ∧ p.src ≤ 4) ∧ (1 ≤ p.dst ∧ p.dst ≤ 4) ∧ (1 ≤ p.sp ∧ p.sp ≤ 65535) ∧ (1 ≤ p.dp ∧ p.dp ≤ 65535) ∧ (0 ≤ p.fl ∧ p.fl ≤ 15) ∧ (0 ≤ p.wn ∧ p.wn ≤ 65535) ∧ (0 ≤ p.pr ∧ p.pr ≤ 1099511627776) ∧ (0 ≤ p.og ∧ p.og ≤ 65535) :=
  ⟨h 0 (by decide), h 1 (by decide), h 2 (by decide), h 3 (by decide), h 4 (by decide), h 5 (by decide), h 6 (by decide), h 7 (by decide)⟩
theorem rows_of {p : Pk} (h : (1 ≤ p.src ∧ p.src ≤ 4) ∧ (1 ≤ p.dst ∧ p.dst ≤ 4) ∧ (1 ≤ p.sp ∧ p.sp ≤ 65535) ∧ (1 ≤ p.dp ∧ p.dp ≤ 65535) ∧ (0 ≤ p.fl ∧ p.fl ≤ 15) ∧ (0 ≤ p.wn ∧ p.wn ≤ 65535) ∧ (0 ≤ p.pr ∧ p.pr ≤ 1099511627776) ∧ (0 ≤ p.og ∧ p.og ≤ 65535)) : RowsOk p 8 := fun j hj => by
  obtain ⟨h0, h1, h2, h3, h4, h5, h6, h7⟩ := h
  match j, hj with
  | 0, _ => exact h0
  | 1, _ => exact h1
  | 2, _ => exact h2
  | 3, _ => exact h3
  | 4, _ => exact h4
  | 5, _ => exact h5
  | 6, _ => exact h6
  | 7, _ => exact h7
theorem okN_rows (p : Pk) (n : Nat) : okN p n = true ↔ RowsOk p 8 ∧ p.src ≠ p.dst ∧ n ≤ 128 := by
  constructor
  · intro h
    simp only [okN, Bool.and_eq_true, decide_eq_true_eq] at h
    exact ⟨rows_of ⟨h.1, h.2.1, h.2.2.2.1, h.2.2.2.2.1, h.2.2.2.2.2.1, h.2.2.2.2.2.2.1, h.2.2.2.2.2.2.2.1, h.2.2.2.2.2.2.2.2.1⟩, h.2.2.1, h.2.2.2.2.2.2.2.2.2⟩
  · rintro ⟨h, hne, hn⟩
    obtain ⟨h0, h1, h2, h3, h4, h5, h6, h7⟩ := rows_all h
    simp only [okN, Bool.and_eq_true, decide_eq_true_eq]
    exact ⟨h0, h1, hne, h2, h3, h4, h5, h6, h7, hn⟩
def Rows3 (w : World) (g : Nat) (p : Pk) : Prop := ∀ j, j < 8 → w.cell? ⟨g, j * 3, none⟩ = some (.int .i64 (rowX p j)) ∧ w.cell? ⟨g, j * 3 + 1, none⟩ = some (.int .i64 (rowLo p j)) ∧ w.cell? ⟨g, j * 3 + 2, none⟩ = some (.int .i64 (rowHi p j))
theorem Rows3.ext {w w' : World} {g : Nat} {p : Pk} (h : Rows3 w g p) (e : Below w.heap.size w w') : Rows3 w' g p := fun j hj =>
  have ⟨a, b, c⟩ := h j hj
  ⟨(e.cell (p := ⟨g, j * 3, none⟩) (World.block_lt_of_cell? w _ a)).trans a, (e.cell (p := ⟨g, j * 3 + 1, none⟩) (World.block_lt_of_cell? w _ b)).trans b, (e.cell (p := ⟨g, j * 3 + 2, none⟩) (World.block_lt_of_cell? w _ c)).trans c⟩

set_option maxRecDepth 100000 in
set_option maxHeartbeats 2000000 in
theorem rcheck_n (p : Pk) (A : Option Addr) (n c : Nat) (hn : n ≤ 100000) (w : World) :
    Calls Try.prog 43 #[.agg (p.cs A n c).toArray] w fun e w' => e = .returned (.int .i64 (if okN p n then 0 else 40)) ∧ Below w.heap.size w w' := by
  obtain ⟨E, hE⟩ : ∃ E : Int, (if okN p n = true then (0 : Int) else 40) = E := ⟨_, rfl⟩
  rw [hE]
  have HE := Lib.hid hE
  clear hE
  obtain ⟨P, hP⟩ : ∃ P : Pk, p = P := ⟨_, rfl⟩
  rw [hP] at HE
  obtain ⟨src, dst, sp, dp, seq, ack, fl, wn, pr, og, data⟩ := p
  simp only [Pk.cs]
  have HP := Lib.hid hP
  clear hP
  have HC0 := Lib.hid (BK.new w 32 [.int .i64 src, .int .i64 dst, .int .i64 sp, .int .i64 dp, .int .u32 (seq : Int), .int .u32 (ack : Int), .int .i64 fl, .int .i64 wn, .int .i64 pr, .int .i64 og, .slice A n c])
  have HB0 := Lib.hid (ext_alloc w (.cells #[.int .i64 src, .int .i64 dst, .int .i64 sp, .int .i64 dp, .int .u32 (seq : Int), .int .u32 (ack : Int), .int .i64 fl, .int .i64 wn, .int .i64 pr, .int .i64 og, .slice A n c] 32))
  go_enter Try.func43, Try.ntmps43
  go_wp2
  refine name_world (fun w1 => BK w1 w.heap.size 32 [.int .i64 src, .int .i64 dst, .int .i64 sp, .int .i64 dp, .int .u32 (seq : Int), .int .u32 (ack : Int), .int .i64 fl, .int .i64 wn, .int .i64 pr, .int .i64 og, .slice A n c] ∧ Below w.heap.size w w1 ∧ Rows3 w1 (w.heap.size + 1) P ∧ w.heap.size + 1 < w1.heap.size) ⟨HC0.out.ext (ext_alloc _ _), ext_trans HB0.out (ext_alloc _ _), ?_, by simp⟩ ?_
  · rw [← HP.out]
    intro j hj
    have hb := heap_new (w.alloc (.cells #[.int .i64 src, .int .i64 dst, .int .i64 sp, .int .i64 dp, .int .u32 (seq : Int), .int .u32 (ack : Int), .int .i64 fl, .int .i64 wn, .int .i64 pr, .int .i64 og, .slice A n c] 32))
      (.cells #[.int .i64 src, .int .i64 1, .int .i64 4, .int .i64 dst, .int .i64 1, .int .i64 4, .int .i64 sp, .int .i64 1, .int .i64 65535, .int .i64 dp, .int .i64 1, .int .i64 65535, .int .i64 fl, .int .i64 0, .int .i64 15, .int .i64 wn, .int .i64 0, .int .i64 65535, .int .i64 pr, .int .i64 0, .int .i64 1099511627776, .int .i64 og, .int .i64 0, .int .i64 65535] 100) (k := w.heap.size + 1) (by simp)
    match j, hj with
    | 0, _ => exact ⟨cell_heap hb rfl, cell_heap hb rfl, cell_heap hb rfl⟩
    | 1, _ => exact ⟨cell_heap hb rfl, cell_heap hb rfl, cell_heap hb rfl⟩
    | 2, _ => exact ⟨cell_heap hb rfl, cell_heap hb rfl, cell_heap hb rfl⟩
    | 3, _ => exact ⟨cell_heap hb rfl, cell_heap hb rfl, cell_heap hb rfl⟩
    | 4, _ => exact ⟨cell_heap hb rfl, cell_heap hb rfl, cell_heap hb rfl⟩
    | 5, _ => exact ⟨cell_heap hb rfl, cell_heap hb rfl, cell_heap hb rfl⟩
    | 6, _ => exact ⟨cell_heap hb rfl, cell_heap hb rfl, cell_heap hb rfl⟩
    | 7, _ => exact ⟨cell_heap hb rfl, cell_heap hb rfl, cell_heap hb rfl⟩
  rintro w1 ⟨hK, hB, hR, hs1⟩
  have HK1 := Lib.hid hK
  have HB1 := Lib.hid hB
  have HR1 := Lib.hid hR
  clear hK hB hR HC0 HB0
  go_loopw [31] (fun i wr => ∃ k : Nat, k ≤ 8 ∧ i = .int .i64 k ∧ Hid (RowsOk P k) ∧ Hid (Below w1.heap.size w1 wr)) (fun i _ => 8 - (intOf i).toNat)
  case atStart => exact ⟨0, Nat.zero_le _, rfl, Lib.hid (fun j hj => absurd hj (by omega)), Lib.hid (Below.refl _ _)⟩
  case round =>
    obtain ⟨k, hk, rfl, HRO, HB2⟩ := hrel
    by_cases h1 : k < 8
    · obtain ⟨c0, c1, c2⟩ := (HR1.out.ext HB2.out) k h1
      obtain ⟨x, hx⟩ : ∃ x, rowX P k = x := ⟨_, rfl⟩
      obtain ⟨lo, hlo⟩ : ∃ x, rowLo P k = x := ⟨_, rfl⟩
      obtain ⟨hi, hhi⟩ : ∃ x, rowHi P k = x := ⟨_, rfl⟩
      rw [hx] at c0
      rw [hlo] at c1
      rw [hhi] at c2
      have HX := Lib.hid hx
      have HLO := Lib.hid hlo
      have HHI := Lib.hid hhi
      have hs2 := HB2.out.size
      clear hx hlo hhi
      by_cases h2 : lo ≤ x
      · by_cases h3 : x ≤ hi
        · go_wp2
          go_roundw
          case rel =>
            refine ⟨k + 1, by omega, by go_num, Lib.hid fun j hj => ?_, Lib.hid (HB2.out.alloc hs2 _)⟩
            by_cases hjk : j < k
            · exact HRO.out j hjk
            · obtain rfl : j = k := by omega
              rw [HX.out, HLO.out, HHI.out]
              exact ⟨h2, h3⟩
          case measure => simp [intOf]; omega
        · have HBAD : Hid (E = 40) := Lib.hid (by
            rw [← HE.out, if_neg]
            intro hok
            have := ((okN_rows P n).1 hok).1 k h1
            rw [HX.out, HLO.out, HHI.out] at this
            exact h3 this.2)
          go_wp2
          go_ret
          exact ⟨by rw [HBAD.out]; rfl, ext_trans HB1.out (HB2.out.alloc hs2 _)⟩
      · have HBAD : Hid (E = 40) := Lib.hid (by
          rw [← HE.out, if_neg]
          intro hok
          have := ((okN_rows P n).1 hok).1 k h1
          rw [HX.out, HLO.out, HHI.out] at this
          exact h2 this.1)
        go_wp2
        go_ret
        exact ⟨by rw [HBAD.out]; rfl, ext_trans HB1.out (HB2.out.alloc hs2 _)⟩
    · obtain rfl : k = 8 := by omega
      have hk1 := HK1.out.ext HB2.out
      have c0 := hk1.cell (i := 0) rfl
      have c1 := hk1.cell (i := 1) rfl
      have c10 := hk1.cell (i := 10) rfl
      have HBX := Lib.hid (ext_trans HB1.out HB2.out)
      clear hk1
      by_cases h2 : src = dst
      · have HBAD : Hid (E = 40) := Lib.hid (by
          rw [← HE.out, if_neg]
          intro hok
          have := ((okN_rows P n).1 hok).2.1
          rw [← HP.out] at this
          exact this h2)
        subst h2
        go_wp2
        go_ret
        exact ⟨by rw [HBAD.out]; rfl, HBX.out⟩
      · have h2' : (src == dst) = false := beq_eq_false_iff_ne.2 h2
        by_cases h3 : n ≤ 128
        · have HGO : Hid (E = 0) := Lib.hid (by
            rw [← HE.out, if_pos]
            refine (okN_rows P n).2 ⟨HRO.out, ?_, h3⟩
            rw [← HP.out]
            exact h2)
          go_wp2
          go_ret
          exact ⟨by rw [HGO.out]; rfl, HBX.out⟩
        · have HBAD : Hid (E = 40) := Lib.hid (by
            rw [← HE.out, if_neg]
            intro hok
            exact h3 ((okN_rows P n).1 hok).2.2)
          go_wp2
          go_ret
          exact ⟨by rw [HBAD.out]; rfl, HBX.out⟩
end Go.Proofs.Ytjhnnnklfhbebaa
