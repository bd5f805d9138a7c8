/- tcp: start, Dial, Accept: the walks. Several things in memory, each with blocks of its own that nobody else writes. tcp: endpoints that may be nil, among other things in memory: what each call leaves. tcp: what an endpoint keeps, whatever is called (plain). tcp: the calls of an endpoint that may be nil, among other things in memory. -/
import Derived.Test.YtjhnnnklfhbebaaTf
import Derived.Laws.Tables
import Derived.Test.YtjhnnnklfhbebaaTd
namespace Go.Proofs.Ytjhnnnklfhbebaa
open Go.RowKit
set_option linter.unusedVariables false
set_option linter.unusedSimpArgs false
/-- A new endpoint's cells. -/
def newCells (src dst sp dp og : Int) (st : Int) : List Value :=
  [.int .i64 src, .int .i64 dst, .int .i64 sp, .int .i64 dp, .int .i64 og, .int .u32 0, .int .u32 0, .int .u32 0, .int .u32 0, .slice none 0 0, .int .i64 0, .bool false, .bool false, .int .i64 0, .int .u32 0, .int .u32 0, .slice none 0 0] ++
  ((List.replicate 1024 (.int .u8 0) ++ List.replicate 1024 (.bool false)) ++ [.bool false, .int .u32 0, .bool false, .int .i64 0, .int .i64 st, .int .i64 0, .int .i64 0, .int .i64 0, .slice none 0 0])
theorem zero_conn (src dst sp dp og st : Int) : (((((Try.zeroCells71.setIfInBounds 0 (.int .i64 src)).setIfInBounds 1 (.int .i64 dst)).setIfInBounds 2 (.int .i64 sp)).setIfInBounds 3 (.int .i64 dp)).setIfInBounds 4 (.int .i64 og)).setIfInBounds 2069 (.int .i64 st) = (newCells src dst sp dp og st).toArray := by
  kernel_rfl
section
variable {N : Nat → Prop} {w : World} {k : Nat} {s : TS} {vp : Value}
theorem num_keep (i q a : Nat) (h : i < 4294967296) : m32 (i + (m32 (q + a) + 4294967296 - i)) = m32 (q + a) := by unfold m32; omega
theorem start_stores (h : ConnIs N w k s vp) (i : Nat) (hi : i < 4294967296) (i1 : Nat) (hi1 : m32 (i + 1) = i1) :
    ConnIs N ((((w.setCell ⟨k, 5, none⟩ (.int .u32 (i : Int))).setCell ⟨k, 6, none⟩ (.int .u32 (i : Int))).setCell ⟨k, 7, none⟩ (.int .u32 (i1 : Int))).setCell ⟨k, 8, none⟩ (.int .u32 (i1 : Int))) k (s.start i) vp ∧
    Chg k vp w ((((w.setCell ⟨k, 5, none⟩ (.int .u32 (i : Int))).setCell ⟨k, 6, none⟩ (.int .u32 (i : Int))).setCell ⟨k, 7, none⟩ (.int .u32 (i1 : Int))).setCell ⟨k, 8, none⟩ (.int .u32 (i1 : Int))) := by
  subst hi1
  have h0 : m32 (i + 0) = i := by unfold m32; omega
  have h1 := h.setH { s with iss := i, una := s.num s.una + 4294967296 - i, nxt := s.num s.nxt + 4294967296 - i, top := s.num s.top + 4294967296 - i } 5 (by decide) (.int .u32 (i : Int)) (fun _ _ => by
    unfold TS.hd TS.num
    dsimp only
    rw [num_keep i s.iss s.una hi, num_keep i s.iss s.nxt hi, num_keep i s.iss s.top hi]
    rfl) (fun _ _ => rfl) rfl rfl rfl rfl (fun e => ⟨e, rfl⟩)
  have h2 := h1.setH { s with iss := i, una := 0, nxt := s.num s.nxt + 4294967296 - i, top := s.num s.top + 4294967296 - i } 6 (by decide) (.int .u32 (i : Int)) (fun _ _ => by
    unfold TS.hd TS.num
    dsimp only
    rw [h0]
    rfl) (fun _ _ => rfl) rfl rfl rfl rfl (fun e => ⟨e, rfl⟩)
  have h3 := h2.setH { s with iss := i, una := 0, nxt := 1, top := s.num s.top + 4294967296 - i } 7 (by decide) (.int .u32 (m32 (i + 1) : Int)) (fun _ _ => rfl) (fun _ _ => rfl) rfl rfl rfl rfl (fun e => ⟨e, rfl⟩)
  have h4 := h3.setH (s.start i) 8 (by decide) (.int .u32 (m32 (i + 1) : Int)) (fun _ _ => rfl) (fun _ _ => rfl) rfl rfl rfl rfl (fun e => ⟨e, rfl⟩)
  exact ⟨h4, (((Chg.grown (grown_setCell _ _ _ _) (.inl rfl)).trans (Chg.grown (grown_setCell _ _ _ _) (.inl rfl)) (After.refl _ _)).trans (Chg.grown (grown_setCell _ _ _ _) (.inl rfl)) (After.refl _ _)).trans (Chg.grown (grown_setCell _ _ _ _) (.inl rfl)) (After.refl _ _)⟩
set_option maxRecDepth 100000 in
theorem start_calls (h : ConnIs N w k s vp) (i : Nat) (hi : i < 4294967296) :
    Calls Try.prog 41 #[.pointer (some ⟨k, 0, none⟩), .int .u32 (i : Int)] w fun e w' => e = .returned (.tuple #[]) ∧ ConnIs N w' k (s.start i) vp ∧ Chg k vp w w' := by
  obtain ⟨i1, hi1⟩ : ∃ i1, m32 (i + 1) = i1 := ⟨_, rfl⟩
  have hwi : IntKind.u32.wrap ((i : Int) + 1) = (i1 : Int) := by rw [← hi1, show (i : Int) + 1 = ((i + 1 : Nat) : Int) from rfl, wrap_u32_nat]; rfl
  have HS := Lib.hid (start_stores h i hi i1 hi1)
  have c5 := h.cellH 5 (by decide) (fun _ _ => rfl)
  have c6 := h.cellH 6 (by decide) (fun _ _ => rfl)
  have c7 := h.cellH 7 (by decide) (fun _ _ => rfl)
  have c8 := h.cellH 8 (by decide) (fun _ _ => rfl)
  have f5 := h.frozen 5
  have f6 := h.frozen 6
  have f7 := h.frozen 7
  have f8 := h.frozen 8
  clear h hi1
  go_enter Try.func41, Try.ntmps41
  go_wp2_with fail
  go_end0
  exact ⟨rfl, HS.out.1, HS.out.2⟩
theorem eh_new : EhIs (List.replicate 1024 none) (List.replicate 1024 (.int .u8 0) ++ List.replicate 1024 (.bool false)) := by
  refine ⟨by rw [List.length_append, List.length_replicate, List.length_replicate], fun i hi => ⟨0, ?_, ?_, ?_⟩⟩
  · rw [List.getElem?_append_left (by rw [List.length_replicate]; exact hi), List.getElem?_replicate, if_pos hi]
    rfl
  · have hg : (List.replicate 1024 (none : Option UInt8)).getD i none = none := by
      rw [List.getD_eq_getElem?_getD, List.getElem?_replicate]
      split <;> rfl
    rw [hg, List.getElem?_append_right (by rw [List.length_replicate]; omega), List.length_replicate, List.getElem?_replicate, if_pos (by omega)]
    rfl
  · have hg : (List.replicate 1024 (none : Option UInt8)).getD i none = none := by
      rw [List.getD_eq_getElem?_getD, List.getElem?_replicate]
      split <;> rfl
    rw [hg]
    intro y hy
    cases hy
theorem new_cells (src dst sp dp og : Int) (st : Nat) : newCells src dst sp dp og (st : Int) = TS.cells { TS.zero with src := src, dst := dst, sp := sp, dp := dp, og := og, state := st } (.slice none 0 0) (.slice none 0 0) (.slice none 0 0) 0 (List.replicate 1024 (.int .u8 0) ++ List.replicate 1024 (.bool false)) := rfl
theorem conn_new {w : World} (hN : ∀ b, N b → b < w.heap.size) (src dst sp dp og : Int) (st : Nat) : ConnIs N (w.alloc (.cells (newCells src dst sp dp og (st : Int)).toArray 71)) w.heap.size { TS.zero with src := src, dst := dst, sp := sp, dp := dp, og := og, state := st } (.slice none 0 0) := by
  have he : EhIs ({ TS.zero with src := src, dst := dst, sp := sp, dp := dp, og := og, state := st } : TS).early (List.replicate 1024 (Value.int .u8 0) ++ List.replicate 1024 (Value.bool false)) := eh_new
  refine ⟨.slice none 0 0, .slice none 0 0, 0, List.replicate 1024 (Value.int .u8 0) ++ List.replicate 1024 (Value.bool false), ?_, he, by decide, fun e => absurd (show false = true from e) (by decide), SlN.nil _ _, SlN.nil _ _, ⟨[], ?_, rfl⟩, fun e => ?_, fun b hb => by cases hb⟩
  · rw [← new_cells]
    exact BK.new _ _ _
  · exact World.ownsRow_nil _ _ _ _
  · have := hN _ e
    omega
/-- A new endpoint, or none. -/
def DidNew (N : Nat → Prop) (w : World) (so : Option TS) (e : Ending) (w' : World) : Prop :=
  Below w.heap.size w w' ∧ ((so = none ∧ e = .returned (.pointer none)) ∨ ∃ k s vp, so = some s ∧ e = .returned (.pointer (some ⟨k, 0, none⟩)) ∧ ConnIs N w' k s vp ∧ w.heap.size ≤ k ∧ ∀ b, vp.ownBlock = some b → w.heap.size ≤ b)
theorem below_chg {w0 w w' : World} {vp : Value} (h : Below w0.heap.size w0 w) (hc : Chg k vp w w') (hk : w0.heap.size ≤ k) (hv : ∀ b, vp.ownBlock = some b → w0.heap.size ≤ b) : Below w0.heap.size w0 w' :=
  ⟨hc.os.trans h.os, hc.tape.trans h.tape, hc.output.trans h.output, Nat.le_trans h.size hc.size, fun i hi => (hc.block i (Nat.lt_of_lt_of_le hi h.size) (by omega) (fun e => by have := hv i e; omega)).trans (h.block i hi)⟩
theorem new_bd (src dst sp dp og : Int) (st : Nat) (i : Nat) (hi : i < 4294967296) : ({ TS.zero with src := src, dst := dst, sp := sp, dp := dp, og := og, state := st } : TS).start i |>.Bd :=
  ⟨Nat.zero_le _, Nat.zero_le _, Nat.zero_le _, show (0 : Nat) < 4294967296 by omega, hi⟩
set_option maxRecDepth 100000 in
set_option maxHeartbeats 2000000 in
theorem dial_calls (w : World) (hN : ∀ b, N b → b < w.heap.size) (src sp dst dp og : Int) (iss : Nat) (hi : iss < 4294967296) :
    Calls Try.prog 15 #[.int .i64 src, .int .i64 sp, .int .i64 dst, .int .i64 dp, .int .i64 og, .int .u32 (iss : Int)] w (DidNew N w (TS.dial src sp dst dp og iss)) := by
  have HCH := Lib.hid (check_n (TS.dialP src sp dst dp og) none 0 0 w)
  obtain ⟨O, hO⟩ : ∃ O, okN (TS.dialP src sp dst dp og) 0 = O := ⟨_, rfl⟩
  rw [hO] at HCH
  have HO : Hid (okP (TS.dialP src sp dst dp og) = O) := Lib.hid hO
  obtain ⟨R, hR⟩ : ∃ R, TS.dial src sp dst dp og iss = R := ⟨_, rfl⟩
  have HR := Lib.hid hR
  rw [hR]
  have HN := Lib.hid hN
  clear hO hR hN
  simp only [Pk.cs, TS.dialP] at HCH
  go_enter Try.func15, Try.ntmps15
  go_wp2_with fail
  refine HCH.out.mono ?_
  rintro e w1 ⟨rfl, hb1⟩
  cases O with
  | false =>
    have HX : Hid (R = none) := Lib.hid (by rw [← HR.out]; unfold TS.dial; rw [if_pos HO.out])
    have HB := Lib.hid hb1
    clear hb1
    go_wp2_with fail
    go_ret
    exact ⟨HB.out, .inl ⟨HX.out, rfl⟩⟩
  | true =>
    have HX : Hid (R = some (({ TS.zero with src := src, dst := dst, sp := sp, dp := dp, og := og, state := 1 } : TS).start iss).syn) := Lib.hid (by rw [← HR.out]; unfold TS.dial; rw [if_neg (fun e => by rw [HO.out] at e; cases e)])
    have HN1 : Hid (∀ b, N b → b < w1.heap.size) := Lib.hid fun b h => Nat.lt_of_lt_of_le (HN.out b h) hb1.size
    have HB := Lib.hid hb1
    have HNEW := Lib.hid (conn_new HN1.out src dst sp dp og 1)
    have hsz := hb1.size
    clear hb1 HCH
    go_wp2_with fail
    rw [zero_conn src dst sp dp og 1]
    obtain ⟨k, hk⟩ : ∃ k, w1.heap.size = k := ⟨_, rfl⟩
    have HK : Hid (w.heap.size ≤ k) := Lib.hid (hk ▸ hsz)
    have HE : Hid (Below w.heap.size w (w1.alloc (.cells (newCells src dst sp dp og 1).toArray 71))) := Lib.hid (HB.out.trans ((ext_alloc _ _).mono hsz))
    have HNE : Hid (ConnIs N (w1.alloc (.cells (newCells src dst sp dp og 1).toArray 71)) k { TS.zero with src := src, dst := dst, sp := sp, dp := dp, og := og, state := 1 } (.slice none 0 0)) := Lib.hid (hk ▸ HNEW.out)
    rw [hk]
    generalize w1.alloc (.cells (newCells src dst sp dp og 1).toArray 71) = w2 at *
    have HSC := Lib.hid (start_calls HNE.out iss hi)
    obtain ⟨X, hX⟩ : ∃ X, ({ TS.zero with src := src, dst := dst, sp := sp, dp := dp, og := og, state := 1 } : TS).start iss = X := ⟨_, rfl⟩
    have HBD : Hid X.Bd := Lib.hid (hX ▸ new_bd src dst sp dp og 1 iss hi)
    rw [hX] at HSC HX
    have HKS := Lib.hid hk
    have HSZ := Lib.hid hsz
    clear hk hsz HNEW HNE hX
    refine HSC.out.mono ?_
    rintro e w3 ⟨rfl, h3, hc3⟩
    have hb3 := below_chg HE.out hc3 HK.out (fun b hb => by cases hb)
    have HYC := Lib.hid (syn_calls h3 (fun b h => Nat.lt_of_lt_of_le (HN.out b h) hb3.size) HBD.out)
    have HB3 := Lib.hid hb3
    clear h3 hc3 hb3 HSC HE
    go_wp2_with fail
    refine HYC.out.mono ?_
    rintro e w4 ⟨vp4, rfl, h4, hc4, ha4⟩
    have hb4 := below_chg HB3.out hc4 HK.out (fun b hb => by cases hb)
    have HF : Hid (ConnIs N w4 k X.syn vp4 ∧ Below w.heap.size w w4 ∧ ∀ b, vp4.ownBlock = some b → w.heap.size ≤ b) := Lib.hid ⟨h4, hb4, fun b hb => (ha4 b hb).elim (fun e => by cases e) (fun e => Nat.le_trans HB3.out.size e)⟩
    clear h4 hc4 ha4 hb4 HYC
    go_wp2_with fail
    go_ret
    exact ⟨HF.out.2.1, .inr ⟨k, _, vp4, HX.out, rfl, HF.out.1, HK.out, HF.out.2.2⟩⟩
set_option maxRecDepth 100000 in
set_option maxHeartbeats 2000000 in
theorem accept_calls (w : World) (hN : ∀ b, N b → b < w.heap.size) (p : Pk) (A : Option Addr) (n c : Nat) (hn : p.data.length = n) (hi : TS.PkIn p) (iss : Nat) (his : iss < 4294967296) :
    Calls Try.prog 38 #[.agg (p.cs A n c).toArray, .int .u32 (iss : Int)] w (DidNew N w (TS.accept p iss)) := by
  have HCH := Lib.hid (check_n p A n c)
  obtain ⟨O, hO⟩ : ∃ O, okN p n = O := ⟨_, rfl⟩
  rw [hO] at HCH
  have HO : Hid (okP p = O) := Lib.hid (by unfold okP; rw [hn]; exact hO)
  obtain ⟨R, hR⟩ : ∃ R, TS.accept p iss = R := ⟨_, rfl⟩
  have HR := Lib.hid hR
  rw [hR]
  have HN := Lib.hid hN
  have HI := Lib.hid hi
  obtain ⟨g, hg⟩ : ∃ g, w.heap.size = g := ⟨_, rfl⟩
  have HB0 : Hid (Below g w (w.alloc (.cells (p.cs A n c).toArray 32)) ∧ BK (w.alloc (.cells (p.cs A n c).toArray 32)) g 32 (p.cs A n c)) := Lib.hid (hg ▸ ⟨ext_alloc _ _, BK.new _ _ _⟩)
  have HG := Lib.hid hg
  clear hO hR hN hn hi
  simp only [Pk.cs] at HCH HB0 ⊢
  go_enter Try.func38, Try.ntmps38
  go_wp2_with fail
  refine (HCH.out _).mono ?_
  rintro e w1 ⟨rfl, hb1⟩
  have hb2 : Below g w w1 := HB0.out.1.trans (hb1.mono (by simp; omega))
  have hk1 := HB0.out.2.ext hb1
  obtain ⟨fl, hfl⟩ : ∃ fl, p.fl = fl := ⟨_, rfl⟩
  have q6 : w1.cell? ⟨g, 6, none⟩ = some (.int .i64 fl) := by rw [← hfl]; exact hk1.cell rfl
  have HFL := Lib.hid hfl
  have HB := Lib.hid hb2
  have HK1 := Lib.hid hk1
  have hsz := hb2.size
  clear hb1 hb2 hk1 hg hfl HCH HB0
  cases O with
  | false =>
    have HX : Hid (R = none) := Lib.hid (by rw [← HR.out]; unfold TS.accept; rw [if_pos (.inl HO.out)])
    go_wp2_with fail
    go_ret
    exact ⟨HG.out.symm ▸ HB.out, .inl ⟨HX.out, rfl⟩⟩
  | true =>
    by_cases h1 : fl = 1
    · subst h1
      have HX : Hid (R = some (({ ({ TS.zero with src := p.dst, dst := p.src, sp := p.dp, dp := p.sp, state := 2 } : TS).start iss with irs := p.seq, rcv := 1, wnd := p.wn } : TS).syn)) := Lib.hid (by rw [← HR.out]; unfold TS.accept; rw [if_neg (fun e => e.elim (fun e => by rw [HO.out] at e; cases e) (fun e => e HFL.out))])
      have HN1 : Hid (∀ b, N b → b < w1.heap.size) := Lib.hid fun b h => by have := HN.out b h; have := HG.out; omega
      have HNEW := Lib.hid (conn_new HN1.out p.dst p.src p.dp p.sp 0 2)
      have q0 : w1.cell? ⟨g, 0, none⟩ = some (.int .i64 p.src) := HK1.out.cell rfl
      have q1 : w1.cell? ⟨g, 1, none⟩ = some (.int .i64 p.dst) := HK1.out.cell rfl
      have q2 : w1.cell? ⟨g, 2, none⟩ = some (.int .i64 p.sp) := HK1.out.cell rfl
      have q3 : w1.cell? ⟨g, 3, none⟩ = some (.int .i64 p.dp) := HK1.out.cell rfl
      go_wp2_with fail
      rw [zero_conn p.dst p.src p.dp p.sp 0 2]
      obtain ⟨k, hk⟩ : ∃ k, w1.heap.size = k := ⟨_, rfl⟩
      have HK : Hid (g ≤ k ∧ g < k) := Lib.hid (by have := HK1.out.lt; omega)
      have HE : Hid (Below g w (w1.alloc (.cells (newCells p.dst p.src p.dp p.sp 0 2).toArray 71)) ∧ BK (w1.alloc (.cells (newCells p.dst p.src p.dp p.sp 0 2).toArray 71)) g 32 [.int .i64 p.src, .int .i64 p.dst, .int .i64 p.sp, .int .i64 p.dp, .int .u32 (p.seq : Int), .int .u32 (p.ack : Int), .int .i64 p.fl, .int .i64 p.wn, .int .i64 p.pr, .int .i64 p.og, .slice A n c]) := Lib.hid ⟨HB.out.trans ((ext_alloc _ _).mono (by have := HG.out; omega)), HK1.out.ext (ext_alloc _ _)⟩
      have HNE : Hid (ConnIs N (w1.alloc (.cells (newCells p.dst p.src p.dp p.sp 0 2).toArray 71)) k { TS.zero with src := p.dst, dst := p.src, sp := p.dp, dp := p.sp, og := 0, state := 2 } (.slice none 0 0)) := Lib.hid (hk ▸ HNEW.out)
      rw [hk]
      clear q0 q1 q2 q3 q6
      generalize w1.alloc (.cells (newCells p.dst p.src p.dp p.sp 0 2).toArray 71) = w2 at *
      have HSC := Lib.hid (start_calls HNE.out iss his)
      obtain ⟨X, hX⟩ : ∃ X, ({ TS.zero with src := p.dst, dst := p.src, sp := p.dp, dp := p.sp, og := 0, state := 2 } : TS).start iss = X := ⟨_, rfl⟩
      have HBD : Hid (X.Bd ∧ X.told = false) := Lib.hid (hX ▸ ⟨new_bd p.dst p.src p.dp p.sp 0 2 iss his, rfl⟩)
      have HX2 : Hid (R = some ({ X with irs := p.seq, rcv := 1, wnd := p.wn } : TS).syn) := Lib.hid (by rw [← hX]; exact HX.out)
      rw [hX] at HSC
      clear hk hsz HNEW HNE hX HX HK1 HB
      refine HSC.out.mono ?_
      rintro e w3 ⟨rfl, h3, hc3⟩
      have hb3 : Below g w w3 := HG.out ▸ below_chg (HG.out.symm ▸ HE.out.1) hc3 (HG.out.symm ▸ HK.out.1) (fun b hb => by cases hb)
      have hk3 := HE.out.2.same (hc3.block g HE.out.2.lt (by have := HK.out.2; omega) (fun e => by cases e))
      obtain ⟨q, hq⟩ : ∃ q, p.seq = q := ⟨_, rfl⟩
      obtain ⟨q1, hq1⟩ : ∃ q1, m32 (q + 1) = q1 := ⟨_, rfl⟩
      have hq32 : q < 4294967296 := by rw [← hq]; exact HI.out.seq
      have hwq : IntKind.u32.wrap ((q : Int) + 1) = (q1 : Int) := by rw [← hq1, show (q : Int) + 1 = ((q + 1 : Nat) : Int) from rfl, wrap_u32_nat]; rfl
      have HGS := Lib.hid (greet_stores h3 HBD.out.2 q hq32 q1 hq1 p.wn)
      have g4 : w3.cell? ⟨g, 4, none⟩ = some (.int .u32 (q : Int)) := by rw [← hq]; exact hk3.cell rfl
      have g7 : w3.cell? ⟨g, 7, none⟩ = some (.int .i64 p.wn) := hk3.cell rfl
      have c14 := h3.cellH 14 (by decide) (fun _ _ => rfl)
      have c15 := h3.cellH 15 (by decide) (fun _ _ => rfl)
      have c10 := h3.cellH 10 (by decide) (fun _ _ => rfl)
      have f14 := h3.frozen 14
      have f15 := h3.frozen 15
      have f10 := h3.frozen 10
      have HQQ := Lib.hid hq
      have HB3 := Lib.hid hb3
      have hkl3 := h3.lt.1
      have hgk := HK.out.2
      clear h3 hc3 hb3 hk3 hq hq1 HSC HE
      go_upto_region 5 with fail
      go_region
      go_upto_region 6 with fail
      refine name_world (fun W => ConnIs N W k { X with irs := p.seq, rcv := 1, wnd := p.wn } (.slice none 0 0) ∧ Below g w W) ⟨by rw [HQQ.out]; exact HGS.out.1.ext (Below.refl _ _).drew, (show Below g w _ from HG.out ▸ below_chg (HG.out.symm ▸ HB3.out) HGS.out.2 (HG.out.symm ▸ HK.out.1) (fun b hb => by cases hb)).drew⟩ ?_
      rintro w4 ⟨h4, hb4⟩
      have HYC := Lib.hid (syn_calls h4 (fun b h => by have := HN.out b h; have := hb4.size; have := HG.out; omega) ⟨HBD.out.1.inn, HBD.out.1.out, HBD.out.1.pack, HI.out.seq, HBD.out.1.iss⟩)
      have HB4 := Lib.hid hb4
      clear h4 hb4 g4 g7 c14 c15 c10 f14 f15 f10 hkl3 HGS HB3
      go_wp2_with fail
      refine HYC.out.mono ?_
      rintro e w5 ⟨vp5, rfl, h5, hc5, ha5⟩
      have hb5 : Below g w w5 := HG.out ▸ below_chg (HG.out.symm ▸ HB4.out) hc5 (HG.out.symm ▸ HK.out.1) (fun b hb => by cases hb)
      have HF : Hid (ConnIs N w5 k ({ X with irs := p.seq, rcv := 1, wnd := p.wn } : TS).syn vp5 ∧ Below g w w5 ∧ ∀ b, vp5.ownBlock = some b → g ≤ b) := Lib.hid ⟨h5, hb5, fun b hb => (ha5 b hb).elim (fun e => by cases e) (fun e => Nat.le_trans (HG.out ▸ HB4.out.size) e)⟩
      clear h5 hc5 ha5 hb5 HYC
      go_wp2_with fail
      go_ret
      exact ⟨HG.out.symm ▸ HF.out.2.1, .inr ⟨k, _, vp5, HX2.out, rfl, HF.out.1, HG.out.symm ▸ HK.out.1, HG.out.symm ▸ HF.out.2.2⟩⟩
    · have HX : Hid (R = none) := Lib.hid (by rw [← HR.out]; unfold TS.accept; rw [if_pos (.inr (fun e => h1 (HFL.out.symm.trans e)))])
      have h1i : (fl != (1 : Int)) = true := bne_iff_ne.2 h1
      go_wp2_with fail
      go_ret
      exact ⟨HG.out.symm ▸ HB.out, .inl ⟨HX.out, rfl⟩⟩
end
end Go.Proofs.Ytjhnnnklfhbebaa
namespace Go.Proofs.Ytjhnnnklfhbebaa
open Go.RowKit
set_option linter.unusedVariables false

/-- Nothing that was there is another, but blocks of 'own'. -/
structure Only (own : Nat → Prop) (w w' : World) : Prop where
  os : w'.os = w.os
  tape : w'.tape = w.tape
  output : w'.output = w.output
  size : w.heap.size ≤ w'.heap.size
  block : ∀ i, i < w.heap.size → ¬ own i → w'.heap[i]? = w.heap[i]?
theorem Only.refl (own : Nat → Prop) (w : World) : Only own w w := ⟨rfl, rfl, rfl, Nat.le_refl _, fun _ _ _ => rfl⟩
theorem Only.of_below {own : Nat → Prop} {w w' : World} (h : Below w.heap.size w w') : Only own w w' := ⟨h.os, h.tape, h.output, h.size, fun i hi _ => h.block i hi⟩
theorem Only.to_below {own : Nat → Prop} {w w' : World} (h : Only own w w') (hn : ∀ i, i < w.heap.size → ¬ own i) : Below w.heap.size w w' := ⟨h.os, h.tape, h.output, h.size, fun i hi => h.block i hi (hn i hi)⟩
theorem Only.wide {own own' : Nat → Prop} {w w' : World} (h : Only own w w') (hw : ∀ b, b < w.heap.size → own b → own' b) : Only own' w w' := ⟨h.os, h.tape, h.output, h.size, fun i hi hn => h.block i hi (fun e => hn (hw i hi e))⟩
theorem Only.trans {own own1 : Nat → Prop} {w w1 w2 : World} (h : Only own w w1) (h1 : Only own1 w1 w2) (ho : ∀ b, own1 b → own b ∨ w.heap.size ≤ b) : Only own w w2 :=
  ⟨h1.os.trans h.os, h1.tape.trans h.tape, h1.output.trans h.output, Nat.le_trans h.size h1.size, fun i hi hn => (h1.block i (Nat.lt_of_lt_of_le hi h.size) (fun e => (ho i e).elim hn (fun e => by omega))).trans (h.block i hi hn)⟩
theorem Only.drew {own : Nat → Prop} {w w' : World} (h : Only own w w') : Only own w w'.drew := ⟨h.os, h.tape, h.output, h.size, h.block⟩
theorem Only.below {own : Nat → Prop} {B : Nat} {w0 w w' : World} (h : Only own w w') (hB : Below B w0 w) (hb : B ≤ w.heap.size) (ho : ∀ b, own b → B ≤ b) : Below B w0 w' :=
  ⟨h.os.trans hB.os, h.tape.trans hB.tape, h.output.trans hB.output, Nat.le_trans hB.size h.size, fun i hi => (h.block i (by omega) (fun e => by have := ho i e; omega)).trans (hB.block i hi)⟩
theorem Chg.only {k : Nat} {vp : Value} {w w' : World} (h : Chg k vp w w') : Only (fun b => b = k ∨ vp.ownBlock = some b) w w' := ⟨h.os, h.tape, h.output, h.size, fun i hi hn => h.block i hi (fun e => hn (.inl e)) (fun e => hn (.inr e))⟩
theorem grown_only {w w' : World} {row : Option Nat} (h : w.grownBy w' row) : Only (fun b => row = some b) w w' := ⟨h.os, h.tape, h.output, h.size, fun i hi hn => h.block i hi (fun e => hn e.symm)⟩

/-- A thing in memory: the blocks that are its own; what holds of it, where others may write the blocks of N. -/
structure Item where
  own : Nat → Prop
  is : (Nat → Prop) → World → Prop
  fr : ∀ {N : Nat → Prop} {w w' : World}, is N w → (∀ i, i < w.heap.size → ¬ N i → w'.heap[i]? = w.heap[i]?) → is N w'
  wk : ∀ {N N' : Nat → Prop} {w : World}, is N w → (∀ b, b < w.heap.size → N' b → N b) → is N' w
  lt : ∀ {N : Nat → Prop} {w : World}, is N w → ∀ b, own b → b < w.heap.size
  no : ∀ {N : Nat → Prop} {w : World}, is N w → ∀ b, own b → ¬ N b
/-- What others may write, for the j-th. -/
def oth (N : Nat → Prop) (l : List Item) (j b : Nat) : Prop := N b ∨ ∃ (i : Nat) (I : Item), i ≠ j ∧ l[i]? = some I ∧ I.own b
def anyOwn (l : List Item) (b : Nat) : Prop := ∃ (i : Nat) (I : Item), l[i]? = some I ∧ I.own b
def All (N : Nat → Prop) (l : List Item) (w : World) : Prop := (∀ b, N b → b < w.heap.size) ∧ ∀ (j : Nat) (I : Item), l[j]? = some I → I.is (oth N l j) w
section
variable {N : Nat → Prop} {l : List Item} {w w' : World}
theorem All.get (h : All N l w) (j : Nat) {I : Item} (hj : l[j]? = some I) : I.is (oth N l j) w := h.2 j I hj
theorem All.hN (h : All N l w) (j : Nat) : ∀ b, oth N l j b → b < w.heap.size := fun b hb => by
  rcases hb with hb | ⟨i, I, _, hi, hb⟩
  · exact h.1 b hb
  · exact I.lt (h.2 i I hi) b hb
theorem All.own_lt (h : All N l w) : ∀ b, anyOwn l b → b < w.heap.size := fun b ⟨i, I, hi, hb⟩ => I.lt (h.2 i I hi) b hb
theorem All.own_no (h : All N l w) : ∀ b, anyOwn l b → ¬ N b := fun b ⟨i, I, hi, hb⟩ hn => I.no (h.2 i I hi) b hb (.inl hn)
/-- The blocks of two of them are not the same. -/
theorem All.apart (h : All N l w) {i j : Nat} {I J : Item} (hij : i ≠ j) (hi : l[i]? = some I) (hj : l[j]? = some J) {b : Nat} (hb : I.own b) : ¬ J.own b := fun hb2 => I.no (h.2 i I hi) b hb (.inr ⟨j, J, fun e => hij e.symm, hj, hb2⟩)
theorem All.ext (h : All N l w) (hb : Below w.heap.size w w') : All N l w' := ⟨fun b hn => Nat.lt_of_lt_of_le (h.1 b hn) hb.size, fun j I hj => I.fr (h.2 j I hj) (fun i hi _ => hb.block i hi)⟩
theorem getElem?_set_ne {l : List Item} {j i : Nat} (I' : Item) (h : i ≠ j) : (l.set j I')[i]? = l[i]? := List.getElem?_set_ne (fun e => h e.symm)
theorem getElem?_set_at {l : List Item} {j : Nat} {I : Item} (I' : Item) (hj : l[j]? = some I) : (l.set j I')[j]? = some I' := List.getElem?_set_self ((List.getElem?_eq_some_iff.1 hj).1)
/-- One of them is another. -/
theorem All.set (h : All N l w) (j : Nat) {I : Item} (hj : l[j]? = some I) (I' : Item) (hw : Only I.own w w') (ho : ∀ b, I'.own b → I.own b ∨ w.heap.size ≤ b) (hi : I'.is (oth N l j) w') : All N (l.set j I') w' := by
  refine ⟨fun b hn => Nat.lt_of_lt_of_le (h.1 b hn) hw.size, fun i J hJ => ?_⟩
  by_cases hij : i = j
  · subst hij
    rw [getElem?_set_at I' hj] at hJ
    cases hJ
    refine I'.wk hi fun b _ hb => ?_
    rcases hb with hb | ⟨i2, J2, h2, h3, hb⟩
    · exact .inl hb
    · exact .inr ⟨i2, J2, h2, by rw [← getElem?_set_ne I' h2]; exact h3, hb⟩
  · rw [getElem?_set_ne I' hij] at hJ
    have h1 := h.2 i J hJ
    have h2 : J.is (fun b => oth N l i b ∨ oth N (l.set j I') i b) w := J.wk h1 fun b hb hn => by
      rcases hn with hn | hn
      · exact hn
      · rcases hn with hn | ⟨i2, J2, h2, h3, hn⟩
        · exact .inl hn
        · by_cases h4 : i2 = j
          · subst h4
            rw [getElem?_set_at I' hj] at h3
            cases h3
            rcases ho b hn with e | e
            · exact .inr ⟨i2, I, h2, hj, e⟩
            · omega
          · rw [getElem?_set_ne I' h4] at h3
            exact .inr ⟨i2, J2, h2, h3, hn⟩
    exact J.wk (J.fr h2 fun b hb hn => hw.block b hb fun e => hn (.inl (.inr ⟨j, I, fun e2 => hij e2.symm, hj, e⟩))) fun b _ hb => .inr hb
theorem get_snoc_lt {l : List Item} {K J : Item} {i : Nat} (h : l[i]? = some J) : (l ++ [K])[i]? = some J := by
  rw [List.getElem?_append_left (List.getElem?_eq_some_iff.1 h).1]
  exact h
theorem get_snoc {l : List Item} {K J : Item} {i : Nat} (h : (l ++ [K])[i]? = some J) : l[i]? = some J ∨ (i = l.length ∧ J = K) := by
  rcases Nat.lt_or_ge i l.length with hlt | hge
  · rw [List.getElem?_append_left hlt] at h
    exact .inl h
  · have hlt := (List.getElem?_eq_some_iff.1 h).1
    rw [List.length_append, List.length_singleton] at hlt
    obtain rfl : i = l.length := by omega
    rw [List.getElem?_append_right (Nat.le_refl _), Nat.sub_self] at h
    exact .inr ⟨rfl, (Option.some.inj h).symm⟩
theorem oth_snoc {N : Nat → Prop} {l : List Item} {K : Item} {i b : Nat} (h : oth N (l ++ [K]) i b) : oth N l i b ∨ K.own b := by
  rcases h with h | ⟨i2, J2, h2, h3, h4⟩
  · exact .inl (.inl h)
  · rcases get_snoc h3 with e | ⟨_, e⟩
    · exact .inl (.inr ⟨i2, J2, h2, e, h4⟩)
    · exact .inr (e ▸ h4)
/-- One more. -/
theorem All.add (h : All N l w) (K : Item) (hw : Below w.heap.size w w') (hn : ∀ b, K.own b → w.heap.size ≤ b) (hk : K.is (fun b => N b ∨ anyOwn l b) w') : All N (l ++ [K]) w' := by
  refine ⟨fun b hb => Nat.lt_of_lt_of_le (h.1 b hb) hw.size, fun i J hJ => ?_⟩
  rcases get_snoc hJ with e | ⟨rfl, rfl⟩
  · have h1 := h.2 i J e
    have h2 : J.is (fun b => oth N l i b ∨ K.own b) w := J.wk h1 fun b hb hx => hx.elim id (fun e => by have := hn b e; omega)
    exact J.wk (J.fr h2 fun b hb _ => hw.block b hb) fun b _ hb => oth_snoc hb
  · refine J.wk hk fun b _ hb => ?_
    rcases hb with hb | ⟨i2, J2, h2, h3, h4⟩
    · exact .inl hb
    · rcases get_snoc h3 with e | ⟨e, _⟩
      · exact .inr ⟨i2, J2, e, h4⟩
      · exact absurd e h2
/-- One is parted in two. -/
theorem All.split (h : All N l w) (j : Nat) {I : Item} (hj : l[j]? = some I) (I' K : Item) (hw : Only I.own w w') (ho : ∀ b, I'.own b → I.own b ∨ w.heap.size ≤ b) (hok : ∀ b, K.own b → I.own b ∨ w.heap.size ≤ b)
    (hi : I'.is (fun b => oth N l j b ∨ K.own b) w') (hk : K.is (fun b => oth N l j b ∨ I'.own b) w') : All N (l.set j I' ++ [K]) w' := by
  have h1 : All N (l.set j I') w' := h.set j hj I' hw ho (I'.wk hi fun b _ hb => .inl hb)
  refine ⟨fun b hb => Nat.lt_of_lt_of_le (h.1 b hb) hw.size, fun i J hJ => ?_⟩
  rcases get_snoc hJ with e | ⟨rfl, rfl⟩
  · by_cases hij : i = j
    · subst hij
      rw [getElem?_set_at I' hj] at e
      cases e
      refine I'.wk hi fun b _ hb => ?_
      rcases oth_snoc hb with e | e
      · rcases e with e | ⟨i2, J2, h2, h3, h4⟩
        · exact .inl (.inl e)
        · exact .inl (.inr ⟨i2, J2, h2, by rw [← getElem?_set_ne I' h2]; exact h3, h4⟩)
      · exact .inr e
    · rw [getElem?_set_ne I' hij] at e
      have h2 : J.is (fun b => oth N l i b ∨ oth N (l.set j I' ++ [K]) i b) w := J.wk (h.2 i J e) fun b hb hn => by
        rcases hn with hn | hn
        · exact hn
        · rcases oth_snoc hn with hn | hn
          · rcases hn with hn | ⟨i2, J2, h2, h3, hn⟩
            · exact .inl hn
            · by_cases h4 : i2 = j
              · subst h4
                rw [getElem?_set_at I' hj] at h3
                cases h3
                rcases ho b hn with e | e
                · exact .inr ⟨i2, I, h2, hj, e⟩
                · omega
              · rw [getElem?_set_ne I' h4] at h3
                exact .inr ⟨i2, J2, h2, h3, hn⟩
          · rcases hok b hn with e | e
            · exact .inr ⟨j, I, fun e2 => hij e2.symm, hj, e⟩
            · omega
      exact J.wk (J.fr h2 fun b hb hn => hw.block b hb fun e => hn (.inl (.inr ⟨j, I, fun e2 => hij e2.symm, hj, e⟩))) fun b _ hb => .inr hb
  · refine J.wk hk fun b _ hb => ?_
    rcases hb with hb | ⟨i2, J2, h2, h3, h4⟩
    · exact .inl (.inl hb)
    · rcases get_snoc h3 with e | ⟨e, _⟩
      · by_cases h5 : i2 = j
        · subst h5
          rw [getElem?_set_at I' hj] at e
          cases e
          exact .inr h4
        · rw [getElem?_set_ne I' h5] at e
          exact .inl (.inr ⟨i2, J2, h5, e, h4⟩)
      · exact absurd e h2
/-- The last one is not needed any more. -/
theorem All.pop {K : Item} (h : All N (l ++ [K]) w) : All N l w := ⟨h.1, fun j I hj => I.wk (h.2 j I (get_snoc_lt hj)) fun b _ hb => by
  rcases hb with hb | ⟨i, J, h2, h3, h4⟩
  · exact .inl hb
  · exact .inr ⟨i, J, h2, get_snoc_lt h3, h4⟩⟩
theorem All.nil (hN : ∀ b, N b → b < w.heap.size) : All N [] w := ⟨hN, fun j I hj => by cases hj⟩
theorem All.weaken {N' : Nat → Prop} (h : All N l w) (hN : ∀ b, N' b → N b) : All N' l w := ⟨fun b hb => h.1 b (hN b hb), fun j I hj => I.wk (h.2 j I hj) fun b _ hb => hb.imp (hN b) id⟩
end
/-- Several as one. -/
def Item.many (l : List Item) : Item where
  own := anyOwn l
  is := fun N w => ∀ (j : Nat) (I : Item), l[j]? = some I → I.is (oth N l j) w
  fr := fun {N w w'} h hw j I hj => I.wk (I.fr (N := oth N l j) (h j I hj) fun i hi hn => hw i hi (fun e => hn (.inl e))) fun b _ hb => hb
  wk := fun {N N' w} h hN j I hj => I.wk (h j I hj) fun b hb hn => hn.imp (hN b hb) id
  lt := fun {N w} h b ⟨i, I, hi, hb⟩ => I.lt (h i I hi) b hb
  no := fun {N w} h b ⟨i, I, hi, hb⟩ hn => I.no (h i I hi) b hb (.inl hn)
theorem many_all {N : Nat → Prop} {l : List Item} {w : World} (hN : ∀ b, N b → b < w.heap.size) : (Item.many l).is N w ↔ All N l w := ⟨fun h => ⟨hN, h⟩, fun h => h.2⟩
section
variable {N : Nat → Prop} {w w' : World}
theorem RB.at (A : Option Addr) {l : List UInt8} {N : Nat → Prop} (h : RB w A l) (hA : 0 < l.length → ∀ b o, A = some ⟨b, o, none⟩ → ¬ N b) (hw : ∀ i, i < w.heap.size → ¬ N i → w'.heap[i]? = w.heap[i]?) : RB w' A l := fun i hi => by
  obtain ⟨b, o, rfl, hc⟩ := h i hi
  refine ⟨b, o, rfl, ?_⟩
  have hlt := World.block_lt_of_cell? w _ hc
  rw [← hc]
  unfold World.cell?
  rw [hw b hlt (hA (by omega) b o rfl)]
theorem SlN.fr {v : Value} {l : List UInt8} (h : SlN N w v l) (hw : ∀ i, i < w.heap.size → ¬ N i → w'.heap[i]? = w.heap[i]?) : SlN N w' v l := by
  obtain ⟨A, c, e1, h1, h2, h3, h4⟩ := h
  exact ⟨A, c, e1, h1, h2, h3.at A h4 hw, h4⟩
theorem PkRow.fr (hw : ∀ i, i < w.heap.size → ¬ N i → w'.heap[i]? = w.heap[i]?) : ∀ {ps : List Pk} {xs : List Value}, PkRow N w ps xs → PkRow N w' ps xs
  | [], _, h => h
  | _ :: _, _, ⟨A, c, ys, e1, h1, h2, h3, h4⟩ => ⟨A, c, ys, e1, h1.fr hw, h2, h3, PkRow.fr hw h4⟩
theorem ownsRow_same {base size : Nat} {e : TypeId} {v : Value} {n : Nat} {xs : List Value} (h : w.ownsRow base e size v n xs) (hw : ∀ b, v.ownBlock = some b → w'.heap[b]? = w.heap[b]?) : w'.ownsRow base e size v n xs := by
  obtain ⟨h1, h2⟩ := h
  refine ⟨h1, h2.imp id ?_⟩
  rintro ⟨g, cap, cur, rfl, h3, h4, h5⟩
  exact ⟨g, cap, cur, rfl, h3, (hw g rfl).trans h4, h5⟩
end
def Item.conn (k : Nat) (s : TS) (vp : Value) : Item where
  own := fun b => b = k ∨ vp.ownBlock = some b
  is := fun N w => ConnIs N w k s vp
  fr := fun {N w w'} h hw => by
    have hlt := h.lt
    obtain ⟨vo, vi, fe, eh, h1, h2, h3, h4, h5, h6, ⟨xs, h7, h71⟩, h8, h9⟩ := h
    have hw2 : ∀ i, i < w.heap.size → ¬ NN N k vp i → w'.heap[i]? = w.heap[i]? := fun i hi hn => hw i hi (fun e => hn (.inl e))
    exact ⟨vo, vi, fe, eh, h1.same (hw k hlt.1 h8), h2, h3, h4, h5.fr hw2, h6.fr hw2, ⟨xs, ownsRow_same h7 fun b hb => hw b (hlt.2 b hb) (h9 b hb).1, h71.fr hw2⟩, h8, h9⟩
  wk := fun h hN => h.weaken hN
  lt := fun h b hb => hb.elim (fun e => e ▸ h.lt.1) (fun e => h.lt.2 b e)
  no := fun h b hb => by
    obtain ⟨vo, vi, fe, eh, h1, h2, h3, h4, h5, h6, h7, h8, h9⟩ := h
    exact hb.elim (fun e => e ▸ h8) (fun e => (h9 b e).1)
/-- A slice of packets with a block of its own. -/
def Item.row (v : Value) (ps : List Pk) : Item where
  own := fun b => v.ownBlock = some b
  is := fun N w => PackIs (fun b => N b ∨ v.ownBlock = some b) w v ps ∧ ∀ b, v.ownBlock = some b → ¬ N b
  fr := fun {N w w'} h hw => by
    obtain ⟨⟨xs, h1, h2⟩, h3⟩ := h
    exact ⟨⟨xs, ownsRow_same h1 fun b hb => hw b (h1.lt b hb).2 (h3 b hb), h2.fr fun i hi hn => hw i hi (fun e => hn (.inl e))⟩, h3⟩
  wk := fun {N N' w} h hN => by
    obtain ⟨⟨xs, h1, h2⟩, h3⟩ := h
    exact ⟨⟨xs, h1, h2.weaken fun b hb hn => hn.imp (hN b hb) id⟩, fun b hb hn => h3 b hb (hN b (h1.lt b hb).2 hn)⟩
  lt := fun h b hb => by
    obtain ⟨⟨xs, h1, h2⟩, h3⟩ := h
    exact (h1.lt b hb).2
  no := fun h b hb => h.2 b hb
/-- A slice of bytes with a block of its own. -/
def Item.bytes (v : Value) (l : List UInt8) : Item where
  own := fun b => v.ownBlock = some b
  is := fun N w => OwnB 0 5 w v l ∧ ∀ b, v.ownBlock = some b → ¬ N b
  fr := fun {N w w'} h hw => ⟨ownsRow_same h.1 fun b hb => hw b (h.1.blockLt b hb).2 (h.2 b hb), h.2⟩
  wk := fun {N N' w} h hN => ⟨h.1, fun b hb hn => h.2 b hb (hN b (h.1.blockLt b hb).2 hn)⟩
  lt := fun h b hb => (h.1.blockLt b hb).2
  no := fun h b hb => h.2 b hb
/-- Bytes that only are read. -/
def Item.sl (v : Value) (l : List UInt8) : Item where
  own := fun b => False
  is := fun N w => SlN N w v l
  fr := fun {N w w'} h hw => h.fr hw
  wk := fun {N N' w} h hN => h.weaken hN
  lt := fun h b hb => hb.elim
  no := fun h b hb => hb.elim
/-- A block that is known whole. -/
def Item.bk (g : Nat) (t : TypeId) (cs : List Value) : Item where
  own := fun b => b = g
  is := fun N w => BK w g t cs ∧ ¬ N g
  fr := fun {N w w'} h hw => ⟨h.1.same (hw g h.1.lt h.2), h.2⟩
  wk := fun {N N' w} h hN => ⟨h.1, fun e => h.2 (hN g h.1.lt e)⟩
  lt := fun h b hb => hb ▸ h.1.lt
  no := fun h b hb => hb ▸ h.2
end Go.Proofs.Ytjhnnnklfhbebaa
namespace Go.Proofs.Ytjhnnnklfhbebaa
open Go.RowKit
set_option linter.unusedVariables false
set_option linter.unusedSimpArgs false
/-! ### nil -/
theorem take_nil (p : Pk) (A : Option Addr) (n c : Nat) (w : World) : Calls Try.prog 17 #[.pointer none, .agg (p.cs A n c).toArray] w fun e w' => e = .returned (.tuple #[]) ∧ Below w.heap.size w w' := by
  have HM := Lib.hid (fun w => made_nil w)
  simp only [Pk.cs]
  go_enter Try.func17, Try.ntmps17
  go_wp2_with fail
  refine (HM.out _).mono ?_
  rintro e w1 ⟨rfl, rfl⟩
  go_wp2_with fail
  refine bodyPost_ret (results_none rfl _ _ _) rfl ?_
  exact ⟨rfl, ext_alloc _ _⟩
theorem tick_nil (w : World) : Calls Try.prog 28 #[.pointer none] w fun e w' => e = .returned (.tuple #[]) ∧ w = w' := by
  have HM := Lib.hid (fun w => made_nil w)
  go_enter Try.func28, Try.ntmps28
  go_wp2_with fail
  refine (HM.out _).mono ?_
  rintro e w1 ⟨rfl, rfl⟩
  go_wp2_with fail
  refine bodyPost_ret (results_none rfl _ _ _) rfl ?_
  exact ⟨rfl, rfl⟩
theorem abort_nil (w : World) : Calls Try.prog 30 #[.pointer none] w fun e w' => e = .returned (.tuple #[]) ∧ w = w' := by
  have HM := Lib.hid (fun w => made_nil w)
  go_enter Try.func30, Try.ntmps30
  go_wp2_with fail
  refine (HM.out _).mono ?_
  rintro e w1 ⟨rfl, rfl⟩
  go_wp2_with fail
  refine bodyPost_ret (results_none rfl _ _ _) rfl ?_
  exact ⟨rfl, rfl⟩
theorem close_nil (w : World) : Calls Try.prog 29 #[.pointer none] w fun e w' => e = .returned (.tuple #[]) ∧ w = w' := by
  have HM := Lib.hid (fun w => made_nil w)
  go_enter Try.func29, Try.ntmps29
  go_wp2_with fail
  refine (HM.out _).mono ?_
  rintro e w1 ⟨rfl, rfl⟩
  go_wp2_with fail
  go_end0
  exact ⟨rfl, rfl⟩
theorem write_nil (A : Option Addr) (n c : Nat) (w : World) : Calls Try.prog 31 #[.pointer none, .slice A n c] w fun e w' => e = .returned (.int .i64 0) ∧ w = w' := by
  have HM := Lib.hid (fun w => made_nil w)
  go_enter Try.func31, Try.ntmps31
  go_wp2_with fail
  refine (HM.out _).mono ?_
  rintro e w1 ⟨rfl, rfl⟩
  go_wp2_with fail
  go_ret
  exact ⟨rfl, rfl⟩
theorem room_nil (w : World) : Calls Try.prog 32 #[.pointer none] w fun e w' => e = .returned (.int .i64 0) ∧ w = w' := by
  have HM := Lib.hid (fun w => made_nil w)
  go_enter Try.func32, Try.ntmps32
  go_wp2_with fail
  refine (HM.out _).mono ?_
  rintro e w1 ⟨rfl, rfl⟩
  go_wp2_with fail
  go_ret
  exact ⟨rfl, rfl⟩
theorem read_nil (n : Int) (w : World) : Calls Try.prog 33 #[.pointer none, .int .i64 n] w fun e w' => e = .returned (.slice none 0 0) ∧ w = w' := by
  have HM := Lib.hid (fun w => made_nil w)
  go_enter Try.func33, Try.ntmps33
  go_wp2_with fail
  refine (HM.out _).mono ?_
  rintro e w1 ⟨rfl, rfl⟩
  go_wp2_with fail
  go_ret
  exact ⟨rfl, rfl⟩
theorem out_nil (w : World) : Calls Try.prog 34 #[.pointer none] w fun e w' => e = .returned (.slice none 0 0) ∧ w = w' := by
  have HM := Lib.hid (fun w => made_nil w)
  go_enter Try.func34, Try.ntmps34
  go_wp2_with fail
  refine (HM.out _).mono ?_
  rintro e w1 ⟨rfl, rfl⟩
  go_wp2_with fail
  go_ret
  exact ⟨rfl, rfl⟩
set_option maxRecDepth 100000 in
theorem end_nil (w : World) : Calls Try.prog 26 #[.pointer none] w fun e w' => e = .returned (.agg TS.zero.tell.toArray) ∧ Below w.heap.size w w' := by
  have HM := Lib.hid (fun w => made_nil w)
  have HT : Hid (TS.zero.tell = zeroE) := Lib.hid rfl
  rw [HT.out]
  go_enter Try.func26, Try.ntmps26
  go_wp2_with fail
  refine (HM.out _).mono ?_
  rintro e w1 ⟨rfl, rfl⟩
  go_wp2_with fail
  refine bodyPost_ret (results_cell_row rfl _ _ w.heap.size 56 _ (0, 0) _ rfl (show _ = _ from heap_new w _ rfl) Try.underlying56 rfl (infoE zeroE rfl)) rfl ?_
  exact ⟨rfl, ext_alloc _ _⟩
end Go.Proofs.Ytjhnnnklfhbebaa
namespace Go.Proofs.Ytjhnnnklfhbebaa
open Go.RowKit
set_option linter.unusedVariables false
namespace TS
variable {s : TS}
/-- What a call leaves. -/
structure Went (s s' : TS) : Prop where
  ok : s'.Ok
  qu : s'.Qu
  pre : ∃ ps, s'.pack = s.pack ++ ps ∧ ps.length ≤ 1100
  sent : s'.sent + s'.out.length ≤ s.sent + s.out.length + 1024
  got : s'.got ≤ s.got + 1024
  st : s.state ≠ 0 → s'.state ≠ 0
theorem Took.went {s' : TS} (h : Took s s') : Went s s' := ⟨h.ok, h.qu, h.pre, Nat.le_add_right_of_le h.sent, by rw [h.got]; exact Nat.le_add_right _ _, h.st⟩
theorem Went.self (h : s.Ok) (hq : s.Qu) : Went s s := (Took.self h hq).went
theorem Ok.times (h : s.Ok) (t r i : Nat) (ht : s.dead = false → t ≤ 3 ∧ r ≤ 30 ∧ i ≤ 127) : ({ s with timer := t, tries := r, idle := i } : TS).Ok := ⟨h.inn, h.out, h.irs, h.iss, h.w0, h.w1, h.st, h.sn, h.early, h.win, h.fe, ht, h.u1⟩
theorem Ok.reset_times (h : s.Ok) (t r i : Nat) (ps : List Pk) : ({ s with timer := t, tries := r, idle := i, pack := ps } : TS).reset.Ok :=
  ⟨h.reset.inn, h.reset.out, h.reset.irs, h.reset.iss, h.reset.w0, h.reset.w1, h.reset.st, h.reset.sn, h.reset.early, h.reset.win, h.reset.fe, fun e => absurd (show true = false from e) (by decide), h.reset.u1⟩
theorem went_abort (h : s.Ok) (hq : s.Qu) (t r i : Nat) : Went s ({ s with timer := t, tries := r, idle := i } : TS).abort ∨ s.dead = true := by
  unfold TS.abort
  cases hd : s.dead with
  | true => exact .inr rfl
  | false =>
    left
    rw [if_neg (fun e => by have : s.dead = true := e; rw [hd] at this; cases this)]
    have hx : ∀ ps : List Pk, ps.length ≤ 1100 → Went s ({ s with timer := t, tries := r, idle := i, pack := s.pack ++ ps } : TS).reset := fun ps hp =>
      ⟨h.reset_times t r i _, fun e => absurd (show (5 : Nat) = 1 ∨ (5 : Nat) = 2 from e) (by decide), ⟨ps, rfl, hp⟩, by show s.sent + 0 ≤ _; omega, Nat.le_add_right _ _, fun _ => by show (5 : Nat) ≠ 0; decide⟩
    split
    · have := hx [] (Nat.zero_le _)
      rw [List.append_nil] at this
      exact this
    · exact hx [_] (by show (1 : Nat) ≤ 1100; omega)
theorem went_abort0 (h : s.Ok) (hq : s.Qu) : Went s s.abort := by
  rcases went_abort h hq s.timer s.tries s.idle with e | e
  · exact e
  · unfold TS.abort
    rw [if_pos e]
    exact .self h hq
theorem again_shape (s : TS) : ∃ n t ps, s.again = { s with nxt := n, top := t, pack := s.pack ++ ps } := by
  unfold TS.again
  split
  · exact ⟨_, _, [_], rfl⟩
  · obtain ⟨n, t, ps, e⟩ := push_shape s.back
    exact ⟨n, t, ps, e⟩
theorem went_again (h : s.Ok) (hq : s.Qu) (h3 : s.state = 3) : Went s s.again := by
  obtain ⟨h1, h2⟩ := kept_again h
  obtain ⟨n, t, ps, e⟩ := again_shape s
  rw [e] at h1 h2 ⊢
  have h2 : (s.pack ++ ps).length ≤ s.pack.length + 1025 := h2
  rw [List.length_append] at h2
  exact ⟨h1.ok, fun e => by have : s.state = 1 ∨ s.state = 2 := e; omega, ⟨ps, rfl, by omega⟩, Nat.le_add_right _ _, Nat.le_add_right _ _, fun e => e⟩
theorem went_push (h : s.Ok) (hq : s.Qu) : Went s s.push := (took_push h hq).went
theorem Qu.times (hq : s.Qu) (t r i : Nat) : ({ s with timer := t, tries := r, idle := i } : TS).Qu := hq
theorem went_late (h : s.Ok) (hq : s.Qu) (t i : Nat) (hi : i ≤ 127) (hd : s.dead = false) : Went s ({ s with timer := t, idle := i } : TS).late := by
  have ht := h.tim hd
  unfold TS.late
  dsimp only
  split
  · rcases went_abort h hq 0 (s.tries + 1) i with e | e
    · exact e
    · rw [hd] at e
      cases e
  · rename_i hr
    have hr : ¬ 30 < s.tries + 1 := hr
    have h1 : ({ s with timer := 0, tries := s.tries + 1, idle := i } : TS).Ok := h.times 0 (s.tries + 1) i (fun _ => ⟨by omega, by omega, hi⟩)
    split
    · rename_i h3
      have w := went_again h1 hq h3
      exact ⟨w.ok, w.qu, w.pre, w.sent, w.got, w.st⟩
    · have w := (Took.syn h1 hq).went
      exact ⟨w.ok, w.qu, w.pre, w.sent, w.got, w.st⟩
theorem went_tick (h : s.Ok) (hq : s.Qu) : Went s s.tick := by
  unfold TS.tick
  cases hd : s.dead with
  | true =>
    rw [if_pos rfl]
    exact .self h hq
  | false =>
    rw [if_neg (by decide)]
    have ht := h.tim hd
    dsimp only
    obtain ⟨t, htt⟩ : ∃ t, (if s.nxt = s.una ∧ s.out.length = 0 then 0 else s.timer + 1) = t := ⟨_, rfl⟩
    rw [htt]
    split
    · rcases went_abort h hq t s.tries (s.idle + 1) with e | e
      · exact e
      · rw [hd] at e
        cases e
    · rename_i hi
      have hi : ¬ 128 ≤ s.idle + 1 := hi
      split
      · exact went_late h hq t (s.idle + 1) (by omega) hd
      · rename_i h4
        have h4 : ¬ 4 ≤ t := h4
        have h1 : ({ s with timer := t, idle := s.idle + 1 } : TS).Ok := h.times t s.tries (s.idle + 1) (fun _ => ⟨by omega, ht.2.1, by omega⟩)
        split
        · exact ⟨h1.packed _, hq, ⟨[_], rfl, by show (1 : Nat) ≤ 1100; omega⟩, Nat.le_add_right _ _, Nat.le_add_right _ _, fun e => e⟩
        · exact ⟨h1, hq, ⟨[], (List.append_nil _).symm, Nat.zero_le _⟩, Nat.le_add_right _ _, Nat.le_add_right _ _, fun e => e⟩
theorem went_close (h : s.Ok) (hq : s.Qu) : Went s s.close := by
  unfold TS.close
  split
  · have h1 : ({ s with shut := true } : TS).Ok := ⟨h.inn, h.out, h.irs, h.iss, h.w0, h.w1, h.st, h.sn, h.early, h.win, h.fe, h.tim, h.u1⟩
    have w := went_push h1 hq
    exact ⟨w.ok, w.qu, w.pre, w.sent, w.got, w.st⟩
  · exact .self h hq
theorem went_write (h : s.Ok) (hq : s.Qu) (b : List UInt8) : Went s (s.write b).2 := by
  unfold TS.write
  split
  · exact .self h hq
  · dsimp only
    have ho := h.out
    have hl : (s.out ++ b.take (min b.length (1024 - s.out.length))).length = s.out.length + min b.length (1024 - s.out.length) := by rw [List.length_append, List.length_take]; omega
    have h1 : ({ s with out := s.out ++ b.take (min b.length (1024 - s.out.length)) } : TS).Ok := ⟨h.inn, by show (s.out ++ _).length ≤ 1024; omega, h.irs, h.iss, h.w0, h.w1, h.st, fun e => by
      have := h.sn e
      refine ⟨this.1, this.2.1, ?_⟩
      show s.top ≤ s.una + (s.out ++ _).length + 1
      omega, h.early, h.win, h.fe, h.tim, h.u1⟩
    have w := took_push h1 hq
    refine ⟨w.ok, w.qu, w.pre, ?_, by rw [w.got]; exact Nat.le_add_right _ _, w.st⟩
    have := w.sent
    have e : ({ s with out := s.out ++ b.take (min b.length (1024 - s.out.length)) } : TS).out.length = s.out.length + min b.length (1024 - s.out.length) := hl
    rw [e] at this
    have e : ({ s with out := s.out ++ b.take (min b.length (1024 - s.out.length)) } : TS).sent = s.sent := rfl
    rw [e] at this
    omega
theorem readN_le (s : TS) (n : Int) : s.readN n ≤ s.inn.length := by unfold readN; omega
theorem went_read (h : s.Ok) (hq : s.Qu) (n : Int) : Went s (s.read n).2 := by
  unfold TS.read
  split
  · exact .self h hq
  · have hn := readN_le s n
    have hi := h.inn
    dsimp only
    have hil : (s.inn.drop (s.readN n)).length = s.inn.length - s.readN n := List.length_drop
    have hwd : s.window = 1024 - s.inn.length := rfl
    have h1 : ({ s with inn := s.inn.drop (s.readN n), got := s.got + s.readN n } : TS).Ok := ⟨by show (s.inn.drop _).length ≤ 1024; omega, h.out, h.irs, h.iss, h.w0, h.w1, h.st, h.sn, h.early, fun i hj => h.win i (by
      have : 1024 - (s.inn.drop (s.readN n)).length ≤ i := hj
      omega), fun e1 e2 => ⟨(h.fe e1 e2).1, by
      have := (h.fe e1 e2).2
      show s.fend ≤ s.rcv + (1024 - (s.inn.drop (s.readN n)).length)
      omega⟩, h.tim, h.u1⟩
    split
    · exact ⟨h1.packed _, hq, ⟨[_], rfl, by show (1 : Nat) ≤ 1100; omega⟩, Nat.le_add_right _ _, by show s.got + s.readN n ≤ _; omega, fun e => e⟩
    · exact ⟨h1, hq, ⟨[], (List.append_nil _).symm, Nat.zero_le _⟩, Nat.le_add_right _ _, by show s.got + s.readN n ≤ _; omega, fun e => e⟩
theorem Ok.outp (h : s.Ok) : (s.outp).2.Ok := by unfold TS.outp; split; exact h; exact h.packed _
/-- An endpoint behind so many calls. -/
structure Fine (s : TS) (m : Nat) : Prop where
  ok : s.Ok
  qu : s.Qu
  sent : s.sent + s.out.length ≤ 1024 * m
  got : s.got ≤ 1024 * m
theorem Fine.went {s' : TS} {m : Nat} (h : s.Fine m) (w : Went s s') : s'.Fine (m + 1) := ⟨w.ok, w.qu, by have := w.sent; have := h.sent; omega, by have := w.got; have := h.got; omega⟩
theorem Fine.more {m m' : Nat} (h : s.Fine m) (hm : m ≤ m') : s.Fine m' := ⟨h.ok, h.qu, by have := h.sent; omega, by have := h.got; omega⟩
theorem Fine.outp {m : Nat} (h : s.Fine m) : (s.outp).2.Fine m := by
  refine ⟨h.ok.outp, ?_, ?_, ?_⟩ <;> unfold TS.outp <;> split
  · exact h.qu
  · exact h.qu
  · exact h.sent
  · exact h.sent
  · exact h.got
  · exact h.got
theorem new_ok (src dst sp dp og : Int) (st : Nat) (hst : st ≤ 5) (h3 : st ≠ 3) : ({ TS.zero with src := src, dst := dst, sp := sp, dp := dp, og := og, state := st } : TS).Ok :=
  ⟨Nat.zero_le _, Nat.zero_le _, show (0 : Nat) < 4294967296 by omega, show (0 : Nat) < 4294967296 by omega, Int.le_refl 0, show (0 : Int) ≤ 65535 by omega, hst, fun _ => ⟨Nat.le_refl 0, Nat.le_refl 0, show (0 : Nat) ≤ 0 + 0 + 1 by omega⟩, List.length_replicate, fun i hi => by
    show (List.replicate 1024 (none : Option UInt8)).getD i none = none
    rw [List.getD_eq_getElem?_getD, List.getElem?_replicate]
    split <;> rfl, fun e => absurd (show false = true from e) (by decide), fun _ => ⟨show (0 : Nat) ≤ 3 by omega, show (0 : Nat) ≤ 30 by omega, show (0 : Nat) ≤ 127 by omega⟩, fun e => absurd (show st = 3 from e) h3⟩
theorem Ok.start (h : s.Ok) (h0 : s.una = 0) (h5 : s.state ≠ 3) (i : Nat) (hi : i < 4294967296) : (s.start i).Ok := ⟨h.inn, h.out, h.irs, hi, h.w0, h.w1, h.st, fun _ => ⟨Nat.zero_le 1, Nat.le_refl 1, show (1 : Nat) ≤ 0 + s.out.length + 1 by omega⟩, h.early, h.win, h.fe, h.tim, fun e => absurd (show s.state = 3 from e) h5⟩
theorem fine_zero (m : Nat) : TS.zero.Fine m := ⟨new_ok 0 0 0 0 0 0 (by omega) (by omega), fun e => absurd (show (0 : Nat) = 1 ∨ (0 : Nat) = 2 from e) (by decide), Nat.zero_le _, Nat.zero_le _⟩
theorem dial_fine {src sp dst dp og : Int} {iss : Nat} (hi : iss < 4294967296) (h : TS.dial src sp dst dp og iss = some s) : s.Fine 0 ∧ s.state = 1 ∧ s.pack.length = 1 := by
  unfold TS.dial at h
  split at h
  · cases h
  · cases h
    have h1 := (new_ok src dst sp dp og 1 (by omega) (by omega)).start rfl (show (1 : Nat) ≠ 3 by omega) iss hi
    refine ⟨⟨h1.syn, fun _ => ⟨rfl, rfl, rfl, rfl⟩, Nat.le_refl 0, Nat.le_refl 0⟩, rfl, rfl⟩
theorem accept_fine {p : Pk} (hp : PkIn p) {iss : Nat} (hi : iss < 4294967296) (h : TS.accept p iss = some s) : s.Fine 0 ∧ s.state = 2 ∧ s.pack.length = 1 := by
  unfold TS.accept at h
  split at h
  · cases h
  · rename_i hc
    have hok : okP p = true := by
      cases e : okP p with
      | true => rfl
      | false => exact absurd (.inl e) hc
    obtain ⟨p1, p2, p3, p4, p5⟩ := okP_rows hok
    cases h
    have h1 := (new_ok p.dst p.src p.dp p.sp 0 2 (by omega) (by omega)).start rfl (show (2 : Nat) ≠ 3 by omega) iss hi
    have h2 : ({ ({ TS.zero with src := p.dst, dst := p.src, sp := p.dp, dp := p.sp, state := 2 } : TS).start iss with irs := p.seq, rcv := 1, wnd := p.wn } : TS).Ok := ⟨h1.inn, h1.out, hp.seq, h1.iss, p3, p4, h1.st, h1.sn, h1.early, h1.win, fun e => absurd (show false = true from e) (by decide), h1.tim, h1.u1⟩
    exact ⟨⟨h2.syn, fun _ => ⟨rfl, rfl, rfl, rfl⟩, Nat.le_refl 0, Nat.le_refl 0⟩, rfl, rfl⟩
end TS
end Go.Proofs.Ytjhnnnklfhbebaa
namespace Go.Proofs.Ytjhnnnklfhbebaa
open Go.RowKit
set_option linter.unusedVariables false
def ptr (kb : Option Nat) : Value := .pointer (kb.map fun k => ⟨k, 0, none⟩)
/-- An endpoint, or none. -/
def Item.side : Option Nat → TS → Value → Item
  | some k, s, vp => Item.conn k s vp
  | none, s, vp => ⟨fun _ => False, fun N w => s = TS.zero ∧ vp = .slice none 0 0, fun h _ => h, fun h _ => h, fun _ _ h => h.elim, fun _ _ h => h.elim⟩
section
variable {N : Nat → Prop} {l : List Item} {w w' : World} {j : Nat} {s s' : TS} {vp : Value}
/-- What a call on the j-th of them, an endpoint, leaves. -/
def DidJ (N : Nat → Prop) (l : List Item) (w : World) (j : Nat) (kb : Option Nat) (vp : Value) (s s' : TS) (v : Value) (e : Ending) (w' : World) : Prop :=
  e = .returned v ∧ Only (Item.side kb s vp).own w w' ∧ ∃ vp', All N (l.set j (Item.side kb s' vp')) w' ∧ ∀ b, (Item.side kb s' vp').own b → (Item.side kb s vp).own b ∨ w.heap.size ≤ b
theorem did_j {k : Nat} (h : All N l w) (hj : l[j]? = some (Item.side (some k) s vp)) {v : Value} {e : Ending} (hd : Did (oth N l j) w k vp s' v e w') : DidJ N l w j (some k) vp s s' v e w' := by
  obtain ⟨vp', rfl, h1, h2, h3⟩ := hd
  have ho : ∀ b, (Item.side (some k) s' vp').own b → (Item.side (some k) s vp).own b ∨ w.heap.size ≤ b := fun b hb => hb.elim (fun e => .inl (.inl e)) (fun e => (h3 b e).imp .inr id)
  exact ⟨rfl, h2.only, vp', h.set j hj (Item.side (some k) s' vp') h2.only ho h1, ho⟩
theorem set_same {l : List Item} {j : Nat} {I : Item} (hj : l[j]? = some I) : l.set j I = l := by
  obtain ⟨h, e⟩ := List.getElem?_eq_some_iff.1 hj
  rw [← e]
  exact List.set_getElem_self h
theorem nil_j (h : All N l w) (hj : l[j]? = some (Item.side none s vp)) (hs : s' = s) {v : Value} {e : Ending} (he : e = .returned v) (hb : Below w.heap.size w w') : DidJ N l w j none vp s s' v e w' := by
  subst hs
  exact ⟨he, Only.of_below hb, vp, by rw [set_same hj]; exact h.ext hb, fun b hb => hb.elim⟩
theorem side_nil (h : All N l w) (hj : l[j]? = some (Item.side none s vp)) : s = TS.zero ∧ vp = .slice none 0 0 := h.get j hj
theorem side_tick {kb : Option Nat} (h : All N l w) (hj : l[j]? = some (Item.side kb s vp)) (hb : s.Ok) (hp : s.pack.length ≤ 700000) : Calls Try.prog 28 #[ptr kb] w (DidJ N l w j kb vp s s.tick (.tuple #[])) := by
  cases kb with
  | some k => exact (tick_calls (h.get j hj) (h.hN j) hb hp).mono fun e w' hd => did_j h hj hd
  | none =>
    refine (tick_nil w).mono ?_
    rintro e w' ⟨rfl, rfl⟩
    exact nil_j h hj (by rw [(side_nil h hj).1]; rfl) rfl (Below.refl _ _)
theorem side_abort {kb : Option Nat} (h : All N l w) (hj : l[j]? = some (Item.side kb s vp)) (hb : s.Bd) : Calls Try.prog 30 #[ptr kb] w (DidJ N l w j kb vp s s.abort (.tuple #[])) := by
  cases kb with
  | some k => exact (abort_calls (h.get j hj) (h.hN j) hb).mono fun e w' hd => did_j h hj hd
  | none =>
    refine (abort_nil w).mono ?_
    rintro e w' ⟨rfl, rfl⟩
    exact nil_j h hj (by rw [(side_nil h hj).1]; rfl) rfl (Below.refl _ _)
theorem side_close {kb : Option Nat} (h : All N l w) (hj : l[j]? = some (Item.side kb s vp)) (hb : s.Ok) (hp : s.pack.length ≤ 700000) : Calls Try.prog 29 #[ptr kb] w (DidJ N l w j kb vp s s.close (.tuple #[])) := by
  cases kb with
  | some k => exact (close_calls (h.get j hj) (h.hN j) hb hp).mono fun e w' hd => did_j h hj hd
  | none =>
    refine (close_nil w).mono ?_
    rintro e w' ⟨rfl, rfl⟩
    exact nil_j h hj (by rw [(side_nil h hj).1]; rfl) rfl (Below.refl _ _)
theorem side_write {kb : Option Nat} (h : All N l w) (hj : l[j]? = some (Item.side kb s vp)) (hb : s.Ok) (hp : s.pack.length ≤ 700000) (A : Option Addr) (n c : Nat) (b : List UInt8) (hn : b.length = n) (hl : n ≤ 9223372036854775807) (hnc : n ≤ c) (hr : RB w A b) :
    Calls Try.prog 31 #[ptr kb, .slice A n c] w (DidJ N l w j kb vp s (s.write b).2 (.int .i64 ((s.write b).1 : Int))) := by
  cases kb with
  | some k => exact (write_calls (h.get j hj) (h.hN j) hb hp A n c b hn hl hnc hr).mono fun e w' hd => did_j h hj hd
  | none =>
    refine (write_nil A n c w).mono ?_
    rintro e w' ⟨rfl, rfl⟩
    exact nil_j h hj (by rw [(side_nil h hj).1]; rfl) (by rw [(side_nil h hj).1]; rfl) (Below.refl _ _)
theorem side_take {kb : Option Nat} (h : All N l w) (hj : l[j]? = some (Item.side kb s vp)) (hb : s.Ok) (hq : s.Qu) (hpk : s.pack.length ≤ 600000) (hsn : s.sent ≤ 1000000000000)
    (p : Pk) (A : Option Addr) (n c : Nat) (hn : p.data.length = n) (hnc : n ≤ c) (hi : TS.PkIn p) (hr : RB w A p.data) (hA : 0 < n → ∀ b o, A = some ⟨b, o, none⟩ → ¬ (Item.side kb s vp).own b) :
    Calls Try.prog 17 #[ptr kb, .agg (p.cs A n c).toArray] w (DidJ N l w j kb vp s (s.take p) (.tuple #[])) := by
  cases kb with
  | some k => exact (take_calls (h.get j hj) (h.hN j) hb hq hpk hsn p A n c hn hnc hi hr (fun h0 b o e => ⟨fun e2 => hA h0 b o e (.inl e2), fun e2 => hA h0 b o e (.inr e2)⟩)).mono fun e w' hd => did_j h hj hd
  | none =>
    refine (take_nil p A n c w).mono ?_
    rintro e w' ⟨rfl, hb2⟩
    exact nil_j h hj (by rw [(side_nil h hj).1]; rfl) rfl hb2
theorem side_room {kb : Option Nat} (h : All N l w) (hj : l[j]? = some (Item.side kb s vp)) (hb : s.Ok) : Calls Try.prog 32 #[ptr kb] w fun e w' => e = .returned (.int .i64 (s.room : Int)) ∧ w = w' := by
  cases kb with
  | some k => exact room_calls (h.get j hj) hb.out
  | none =>
    refine (room_nil w).mono ?_
    rintro e w' ⟨rfl, rfl⟩
    exact ⟨by rw [(side_nil h hj).1]; rfl, rfl⟩
theorem side_end {kb : Option Nat} (h : All N l w) (hj : l[j]? = some (Item.side kb s vp)) : Calls Try.prog 26 #[ptr kb] w fun e w' => e = .returned (.agg s.tell.toArray) ∧ Below w.heap.size w w' := by
  cases kb with
  | some k => exact end_calls (h.get j hj)
  | none =>
    refine (end_nil w).mono ?_
    rintro e w' ⟨rfl, hb⟩
    exact ⟨by rw [(side_nil h hj).1], hb⟩
/-- What Read leaves: a new slice, too. -/
def ReadJ (N : Nat → Prop) (l : List Item) (w : World) (j : Nat) (kb : Option Nat) (vp : Value) (s s' : TS) (b : List UInt8) (e : Ending) (w' : World) : Prop :=
  Only (Item.side kb s vp).own w w' ∧ ∃ v vp', e = .returned v ∧ All N (l.set j (Item.side kb s' vp') ++ [Item.bytes v b]) w' ∧ (∀ x, (Item.side kb s' vp').own x → (Item.side kb s vp).own x ∨ w.heap.size ≤ x) ∧ OwnB w.heap.size 5 w' v b
theorem side_read {kb : Option Nat} (h : All N l w) (hj : l[j]? = some (Item.side kb s vp)) (hb : s.Ok) (hp : s.pack.length ≤ 700000) (hg : s.got ≤ 1000000000000) (n : Int) :
    Calls Try.prog 33 #[ptr kb, .int .i64 n] w (ReadJ N l w j kb vp s (s.read n).2 (s.read n).1) := by
  cases kb with
  | some k =>
    refine (read_calls (h.get j hj) (h.hN j) hb hp hg n).mono ?_
    rintro e w' ⟨v, vp', rfl, ho, h1, h2, h3, h4⟩
    have hown : ∀ x, (Item.side (some k) (s.read n).2 vp').own x → (Item.side (some k) s vp).own x ∨ w.heap.size ≤ x := fun b hb => hb.elim (fun e => .inl (.inl e)) (fun e => (h3 b e).imp .inr id)
    have hk : k < w.heap.size := Item.lt (Item.conn k s vp) (h.get j hj) k (.inl rfl)
    have hbv := ho.blockLt
    refine ⟨h2.only, v, vp', rfl, h.split j hj (Item.side (some k) (s.read n).2 vp') (Item.bytes v (s.read n).1) h2.only hown (fun b hb => .inr (hbv b hb).1) h1 ⟨ho.mono (Nat.zero_le _), fun b hb hn => ?_⟩, hown, ho⟩
    rcases hn with hn | hn | hn
    · have := h.hN j b hn
      have := (hbv b hb).1
      omega
    · have := (hbv b hb).1
      omega
    · exact (h4 b hb).1 hn
  | none =>
    refine (read_nil n w).mono ?_
    rintro e w' ⟨rfl, rfl⟩
    have hz := side_nil h hj
    refine ⟨Only.refl _ _, .slice none 0 0, vp, rfl, ?_, fun x hx => hx.elim, ?_⟩
    · have e1 : (s.read n).2 = s := by rw [hz.1]; rfl
      have e2 : (s.read n).1 = [] := by rw [hz.1]; rfl
      rw [e1, e2, set_same hj]
      exact h.add _ (Below.refl _ _) (fun b hb => by cases hb) ⟨OwnB.nil _ _ _, fun b hb => by cases hb⟩
    · have e2 : (s.read n).1 = [] := by rw [hz.1]; rfl
      rw [e2]
      exact OwnB.nil _ _ _
/-- What Out leaves: the packets, too. -/
def OutJ (N : Nat → Prop) (l : List Item) (w : World) (j : Nat) (kb : Option Nat) (vp : Value) (s : TS) (e : Ending) (w' : World) : Prop :=
  Only (Item.side kb s vp).own w w' ∧ ∃ v vp', e = .returned v ∧ All N (l.set j (Item.side kb s.outp.2 vp') ++ [Item.row v s.outp.1]) w' ∧ (∀ x, (Item.side kb s.outp.2 vp').own x → (Item.side kb s vp).own x ∨ w.heap.size ≤ x) ∧ ∀ x, (Item.row v s.outp.1).own x → (Item.side kb s vp).own x ∨ w.heap.size ≤ x
theorem row_nil (N : Nat → Prop) (w : World) : (Item.row (.slice none 0 0) []).is N w := ⟨⟨[], World.ownsRow_nil _ _ _ _, rfl⟩, fun b hb => by cases hb⟩
theorem side_out {kb : Option Nat} (h : All N l w) (hj : l[j]? = some (Item.side kb s vp)) : Calls Try.prog 34 #[ptr kb] w (OutJ N l w j kb vp s) := by
  cases kb with
  | some k =>
    have hc := h.get j hj
    refine (out_calls hc).mono ?_
    rintro e w' (⟨h0, rfl, rfl⟩ | ⟨h0, rfl, rfl⟩)
    · have e1 : s.outp = ([], s) := by unfold TS.outp; rw [if_pos h0]
      refine ⟨Only.refl _ _, .slice none 0 0, vp, rfl, ?_, fun x hx => .inl (by rw [e1] at hx; exact hx), fun x hx => by cases hx⟩
      rw [e1, set_same hj]
      exact h.add _ (Below.refl _ _) (fun b hb => by cases hb) (row_nil _ _)
    · have e1 : s.outp = (s.pack, { s with pack := [] }) := by unfold TS.outp; rw [if_neg h0]
      have hg := grown_setCell w k 2073 (.slice none 0 0)
      have hon : Only (Item.side (some k) s vp).own w (w.setCell ⟨k, 2073, none⟩ (.slice none 0 0)) := (grown_only hg).wide fun b _ e => .inl (Option.some.inj e).symm
      have hown : ∀ x, (Item.side (some k) s.outp.2 (.slice none 0 0)).own x → (Item.side (some k) s vp).own x ∨ w.heap.size ≤ x := fun b hb => .inl (hb.elim .inl (fun e => by cases e))
      refine ⟨hon, vp, .slice none 0 0, rfl, ?_, hown, fun x hx => .inl (.inr hx)⟩
      rw [e1]
      have hc2 : ConnIs (oth N l j) w k s vp := hc
      obtain ⟨vo, vi, fe, eh, h1, h2, h3, h4, h5, h6, h7, h8, h9⟩ := hc2
      have hnn : ∀ b, NN (fun b => oth N l j b ∨ vp.ownBlock = some b) k (.slice none 0 0) b → NN (oth N l j) k vp b := fun b hb => by
        rcases hb with (e | e) | e | e
        · exact .inl e
        · exact .inr (.inr e)
        · exact .inr (.inl e)
        · cases e
      refine h.split j hj (Item.side (some k) { s with pack := [] } (.slice none 0 0)) (Item.row vp s.pack) hon (fun b hb => .inl (hb.elim .inl (fun e => by cases e))) (fun b hb => .inl (.inr hb)) ?_ ⟨?_, fun b hb hn => ?_⟩
      · refine ⟨vo, vi, fe, eh, ?_, h2, h3, h4, (h5.grown hg (.inr (.inl rfl))).weaken fun b _ hb => hnn b hb, (h6.grown hg (.inr (.inl rfl))).weaken fun b _ hb => hnn b hb, ⟨[], World.ownsRow_nil _ _ _ _, rfl⟩, fun e => e.elim h8 (fun e => (h9 k e).2 rfl), fun b hb => by cases hb⟩
        have := h1.set (2065 + 8) (.slice none 0 0)
        unfold TS.cells at this ⊢
        rw [set_tl (TS.hd_len _ _ _) h2.1] at this
        exact this
      · refine (h7.grown hg (.inr (.inl rfl)) (fun e => (h9 k e).2 rfl)).weaken fun b _ hb => ?_
        rcases hb with (e | e | e) | e
        · exact .inl e
        · exact .inr (.inl e)
        · cases e
        · exact .inr (.inr e)
      · rcases hn with e | e | e
        · exact (h9 b hb).1 e
        · exact (h9 b hb).2 e
        · cases e
  | none =>
    refine (out_nil w).mono ?_
    rintro e w' ⟨rfl, rfl⟩
    have hz := side_nil h hj
    have e1 : s.outp = ([], s) := by rw [hz.1]; rfl
    refine ⟨Only.refl _ _, .slice none 0 0, vp, rfl, ?_, fun x hx => hx.elim, fun x hx => by cases hx⟩
    rw [e1, set_same hj]
    exact h.add _ (Below.refl _ _) (fun b hb => by cases hb) (row_nil _ _)
/-- A new endpoint among others. -/
def NewJ (N : Nat → Prop) (l : List Item) (w : World) (so : Option TS) (e : Ending) (w' : World) : Prop :=
  Below w.heap.size w w' ∧ ∃ kb vp, e = .returned (ptr kb) ∧ All N (l ++ [Item.side kb (so.getD TS.zero) vp]) w' ∧ (∀ b, (Item.side kb (so.getD TS.zero) vp).own b → w.heap.size ≤ b) ∧ (kb = none ↔ so = none)
theorem new_j (h : All N l w) {so : Option TS} {e : Ending} (hd : DidNew (fun b => N b ∨ anyOwn l b) w so e w') : NewJ N l w so e w' := by
  obtain ⟨hb, ⟨rfl, rfl⟩ | ⟨k, s, vp, rfl, rfl, h1, h2, h3⟩⟩ := hd
  · exact ⟨hb, none, .slice none 0 0, rfl, h.add _ hb (fun b hb => hb.elim) ⟨rfl, rfl⟩, fun b hb => hb.elim, Iff.rfl.trans ⟨fun _ => rfl, fun _ => rfl⟩⟩
  · have hn : ∀ b, (Item.side (some k) s vp).own b → w.heap.size ≤ b := fun b hb => hb.elim (fun e => e ▸ h2) (fun e => h3 b e)
    exact ⟨hb, some k, vp, rfl, h.add (Item.side (some k) s vp) hb hn h1, hn, ⟨fun e => (by cases e), fun e => (by cases e)⟩⟩
theorem all_dial (h : All N l w) (src sp dst dp og : Int) (iss : Nat) (hi : iss < 4294967296) :
    Calls Try.prog 15 #[.int .i64 src, .int .i64 sp, .int .i64 dst, .int .i64 dp, .int .i64 og, .int .u32 (iss : Int)] w (NewJ N l w (TS.dial src sp dst dp og iss)) :=
  (dial_calls (N := fun b => N b ∨ anyOwn l b) w (fun b hb => hb.elim (h.1 b) (h.own_lt b)) src sp dst dp og iss hi).mono fun e w' hd => new_j h hd
theorem all_accept (h : All N l w) (p : Pk) (A : Option Addr) (n c : Nat) (hn : p.data.length = n) (hp : TS.PkIn p) (iss : Nat) (hi : iss < 4294967296) :
    Calls Try.prog 38 #[.agg (p.cs A n c).toArray, .int .u32 (iss : Int)] w (NewJ N l w (TS.accept p iss)) :=
  (accept_calls (N := fun b => N b ∨ anyOwn l b) w (fun b hb => hb.elim (h.1 b) (h.own_lt b)) p A n c hn hp iss hi).mono fun e w' hd => new_j h hd
end
end Go.Proofs.Ytjhnnnklfhbebaa
