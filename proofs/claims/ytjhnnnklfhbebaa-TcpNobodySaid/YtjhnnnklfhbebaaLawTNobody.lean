/- TcpNobody: the walk. -/
import Derived.Test.YtjhnnnklfhbebaaTh
import Derived.Test.YtjhnnnklfhbebaaRowTcp
namespace Go.Proofs.Ytjhnnnklfhbebaa
open Go.RowKit
set_option linter.unusedVariables false
set_option linter.unusedSimpArgs false
theorem zero_conn0 : Try.zeroCells71 = (newCells 0 0 0 0 0 0).toArray := by
  kernel_rfl
theorem end_ne0 (W : World) : (Go.binOp .neq 56 (.agg #[.int .i64 0, .int .i64 0, .int .i64 0, .int .i64 0, .int .i64 0, .bool false, .bool false]) (.agg #[.int .i64 0, .int .i64 0, .int .i64 0, .int .i64 0, .int .i64 0, .bool false, .bool false])).run Try.prog W = .ok (.bool false) W := by kernel_rfl
section
variable {N : Nat → Prop} {l : List Item} {w w' w0 : World} {j : Nat} {vp : Value} {kb : Option Nat}
theorem zero_take (p : Pk) : TS.zero.take p = TS.zero := rfl
theorem zero_tick : TS.zero.tick = TS.zero := rfl
theorem zero_close : TS.zero.close = TS.zero := rfl
theorem zero_abort : TS.zero.abort = TS.zero := rfl
theorem zero_read (n : Int) : TS.zero.read n = ([], TS.zero) := rfl
theorem zero_outp : TS.zero.outp = ([], TS.zero) := rfl
theorem zero_room : TS.zero.room = 0 := rfl
theorem zero_closed : TS.zero.closed = true := rfl
theorem zero_write (b : List UInt8) : TS.zero.write b = (0, TS.zero) := rfl
theorem side_write0 {s : TS} (h : All N l w) (hj : l[j]? = some (Item.side kb s vp)) (hc : s.closed = true) (A : Option Addr) (n c : Nat) :
    Calls Try.prog 31 #[ptr kb, .slice A n c] w fun e w' => e = .returned (.int .i64 0) ∧ Below w.heap.size w w' := by
  cases kb with
  | some k =>
    refine (write_closed (h.get j hj) hc A n c).mono ?_
    rintro e w' ⟨rfl, rfl⟩
    exact ⟨rfl, Below.refl _ _⟩
  | none =>
    refine (write_nil A n c w).mono ?_
    rintro e w' ⟨rfl, rfl⟩
    exact ⟨rfl, Below.refl _ _⟩
theorem Made.add (h : Made w0 l w) (K : Item) (hb : Below w.heap.size w w') (hn : ∀ b, K.own b → w.heap.size ≤ b) (hk : K.is (fun b => b < w0.heap.size ∨ anyOwn l b) w') : Made w0 (l ++ [K]) w' := ⟨h.1.add K hb hn hk, h.2.trans (hb.mono h.2.size)⟩
theorem Made.bk (h : Made w0 l w) (t : TypeId) (cs : List Value) : Made w0 (l ++ [Item.bk w.heap.size t cs]) (w.alloc (.cells cs.toArray t)) :=
  h.add _ (ext_alloc _ _) (fun b hb => Nat.le_of_eq hb.symm) ⟨BK.new _ _ _, fun e => by
    rcases e with e | e
    · have := h.2.size
      omega
    · have := h.1.own_lt _ e
      omega⟩
theorem Made.conn0 (h : Made w0 l w) : Made w0 (l ++ [Item.side (some w.heap.size) TS.zero (.slice none 0 0)]) (w.alloc (.cells (newCells 0 0 0 0 0 0).toArray 71)) :=
  h.add (Item.side (some w.heap.size) TS.zero (.slice none 0 0)) (ext_alloc _ _) (fun b hb => hb.elim (fun e => Nat.le_of_eq e.symm) (fun e => by cases e)) (conn_new (fun b hb => hb.elim (fun e => Nat.lt_of_lt_of_le e h.2.size) (h.1.own_lt b)) 0 0 0 0 0 0)
theorem Made.nilside (h : Made w0 l w) : Made w0 (l ++ [Item.side none TS.zero (.slice none 0 0)]) w :=
  h.add (Item.side none TS.zero (.slice none 0 0)) (Below.refl _ _) (fun b hb => hb.elim) ⟨rfl, rfl⟩
theorem Made.pop {K : Item} (h : Made w0 (l ++ [K]) w) : Made w0 l w := ⟨h.1.pop, h.2⟩
/-- nil, and an endpoint that no call made. -/
def Nb (w0 : World) (kc g0 gr : Nat) (ds rs : List Value) (w : World) : Prop := ∃ va vb, Made w0 [Item.bk g0 61 ds, Item.side (some kc) TS.zero vb, Item.bk gr 26 rs, Item.side none TS.zero va] w
theorem Nb.ext {kc g0 gr : Nat} {ds rs : List Value} (h : Nb w0 kc g0 gr ds rs w) (hb : Below w.heap.size w w') : Nb w0 kc g0 gr ds rs w' := by
  obtain ⟨va, vb, h⟩ := h
  exact ⟨va, vb, h.ext hb⟩
theorem Nb.at {kc g0 gr : Nat} {ds rs : List Value} (h : Nb w0 kc g0 gr ds rs w) (kb : Option Nat) (hk : kb = none ∨ kb = some kc) : ∃ L j vp, Made w0 L w ∧ L[j]? = some (Item.side kb TS.zero vp) ∧ ∀ vp' W, Made w0 (L.set j (Item.side kb TS.zero vp')) W → Nb w0 kc g0 gr ds rs W := by
  obtain ⟨va, vb, h⟩ := h
  rcases hk with rfl | rfl
  · exact ⟨_, 3, va, h, rfl, fun vp' W hW => ⟨vp', vb, hW⟩⟩
  · exact ⟨_, 1, vb, h, rfl, fun vp' W hW => ⟨va, vp', hW⟩⟩
section
variable {kc g0 gr : Nat} {ds rs : List Value}
theorem nb_tick (hk : kb = none ∨ kb = some kc) (h : Nb w0 kc g0 gr ds rs w) : Calls Try.prog 28 #[ptr kb] w fun e w' => e = .returned (.tuple #[]) ∧ Nb w0 kc g0 gr ds rs w' := by
  obtain ⟨L, j, vp, hm, hj, hn⟩ := h.at kb hk
  refine (side_tick hm.1 hj (TS.fine_zero 0).ok (by decide)).mono ?_
  intro e w' hd
  obtain ⟨rfl, vp', h2⟩ := hm.did hj hd
  exact ⟨rfl, hn vp' _ h2⟩
theorem nb_close (hk : kb = none ∨ kb = some kc) (h : Nb w0 kc g0 gr ds rs w) : Calls Try.prog 29 #[ptr kb] w fun e w' => e = .returned (.tuple #[]) ∧ Nb w0 kc g0 gr ds rs w' := by
  obtain ⟨L, j, vp, hm, hj, hn⟩ := h.at kb hk
  refine (side_close hm.1 hj (TS.fine_zero 0).ok (by decide)).mono ?_
  intro e w' hd
  obtain ⟨rfl, vp', h2⟩ := hm.did hj hd
  exact ⟨rfl, hn vp' _ h2⟩
theorem nb_abort (hk : kb = none ∨ kb = some kc) (h : Nb w0 kc g0 gr ds rs w) : Calls Try.prog 30 #[ptr kb] w fun e w' => e = .returned (.tuple #[]) ∧ Nb w0 kc g0 gr ds rs w' := by
  obtain ⟨L, j, vp, hm, hj, hn⟩ := h.at kb hk
  refine (side_abort hm.1 hj ((TS.fine_zero 0).ok.bd (by decide))).mono ?_
  intro e w' hd
  obtain ⟨rfl, vp', h2⟩ := hm.did hj hd
  exact ⟨rfl, hn vp' _ h2⟩
theorem nb_take (hk : kb = none ∨ kb = some kc) (h : Nb w0 kc g0 gr ds rs w) (p : Pk) (A : Option Addr) (n c : Nat) (hl : p.data.length = n) (hnc : n ≤ c) (hi : TS.PkIn p) (hr : RB w0 A p.data) :
    Calls Try.prog 17 #[ptr kb, .agg (p.cs A n c).toArray] w fun e w' => e = .returned (.tuple #[]) ∧ Nb w0 kc g0 gr ds rs w' := by
  obtain ⟨L, j, vp, hm, hj, hn⟩ := h.at kb hk
  refine (side_take hm.1 hj (TS.fine_zero 0).ok (TS.fine_zero 0).qu (by decide) (by decide) p A n c hl hnc hi (hr.ext hm.2) (fun h0 b o e hb => ?_)).mono ?_
  · obtain ⟨b', o', e', hc⟩ := hr 0 (by omega)
    rw [e] at e'
    injection e' with e'
    injection e' with e5 e6
    subst e5
    exact hm.1.own_no b ⟨j, _, hj, hb⟩ (World.block_lt_of_cell? w0 _ hc)
  · intro e w' hd
    obtain ⟨rfl, vp', h2⟩ := hm.did hj hd
    exact ⟨rfl, hn vp' _ h2⟩
theorem nb_write (hk : kb = none ∨ kb = some kc) (h : Nb w0 kc g0 gr ds rs w) (A : Option Addr) (n c : Nat) : Calls Try.prog 31 #[ptr kb, .slice A n c] w fun e w' => e = .returned (.int .i64 0) ∧ Nb w0 kc g0 gr ds rs w' := by
  obtain ⟨L, j, vp, hm, hj, hn⟩ := h.at kb hk
  refine (side_write0 hm.1 hj rfl A n c).mono ?_
  rintro e w' ⟨rfl, hb⟩
  exact ⟨rfl, h.ext hb⟩
theorem nb_room (hk : kb = none ∨ kb = some kc) (h : Nb w0 kc g0 gr ds rs w) : Calls Try.prog 32 #[ptr kb] w fun e w' => e = .returned (.int .i64 0) ∧ Nb w0 kc g0 gr ds rs w' := by
  obtain ⟨L, j, vp, hm, hj, hn⟩ := h.at kb hk
  refine (side_room hm.1 hj (TS.fine_zero 0).ok).mono ?_
  rintro e w' ⟨rfl, rfl⟩
  exact ⟨rfl, h⟩
theorem nb_read (hk : kb = none ∨ kb = some kc) (h : Nb w0 kc g0 gr ds rs w) (n : Int) : Calls Try.prog 33 #[ptr kb, .int .i64 n] w fun e w' => ∃ A c, e = .returned (.slice A 0 c) ∧ Nb w0 kc g0 gr ds rs w' := by
  obtain ⟨L, j, vp, hm, hj, hn⟩ := h.at kb hk
  refine (hm.read hj (TS.fine_zero 0) (by decide) (by decide) n).mono ?_
  rintro e w' ⟨v, vp', rfl, h2⟩
  have h3 := hn vp' _ h2.pop
  obtain ⟨A, c, rfl, _⟩ := (h2.1.get _ get_last).1.form
  exact ⟨A, c, rfl, h3⟩
theorem nb_out (hk : kb = none ∨ kb = some kc) (h : Nb w0 kc g0 gr ds rs w) : Calls Try.prog 34 #[ptr kb] w fun e w' => ∃ A c, e = .returned (.slice A 0 c) ∧ Nb w0 kc g0 gr ds rs w' := by
  obtain ⟨L, j, vp, hm, hj, hn⟩ := h.at kb hk
  refine (hm.out hj).mono ?_
  rintro e w' ⟨v, vp', rfl, h2⟩
  have h3 := hn vp' _ h2.pop
  obtain ⟨A, c, rfl, _⟩ := row_form' (h2.1.get _ get_last)
  exact ⟨A, c, rfl, h3⟩
theorem nb_end (hk : kb = none ∨ kb = some kc) (h : Nb w0 kc g0 gr ds rs w) : Calls Try.prog 26 #[ptr kb] w fun e w' => e = .returned (.agg #[.int .i64 0, .int .i64 0, .int .i64 0, .int .i64 0, .int .i64 0, .bool false, .bool false]) ∧ Nb w0 kc g0 gr ds rs w' := by
  obtain ⟨L, j, vp, hm, hj, hn⟩ := h.at kb hk
  refine (side_end hm.1 hj).mono ?_
  rintro e w' ⟨rfl, hb⟩
  exact ⟨rfl, h.ext hb⟩
end
end
set_option maxRecDepth 100000 in
set_option maxHeartbeats 2000000 in
theorem tnobody_walk (w : World) (k : DoA) (A : Option Addr) (c : Nat) (B : Option Addr) (d : Nat) (h : DoA.At w k A c B d) :
    Calls Try.prog 5 #[.agg (k.cs A c B d).toArray] w fun e w' => e = .returned (.bool true) ∧ Below w.heap.size w w' := by
  have HAW := Lib.hid (fun W => awake_calls W)
  have H := Lib.hid h
  clear h
  simp only [DoA.cs]
  go_enter Try.func5, Try.ntmps5
  go_upto_block 0 with fail
  rw [zero_conn0]
  obtain ⟨ds, hds⟩ : ∃ ds, k.cs A c B d = ds := ⟨_, rfl⟩
  obtain ⟨g0, hg0⟩ : ∃ g0, w.heap.size = g0 := ⟨_, rfl⟩
  have hst : Nb w (g0 + 1) g0 (g0 + 2) ds [.pointer none, .pointer (some ⟨g0 + 1, 0, none⟩)] (((w.alloc (.cells (k.cs A c B d).toArray 61)).alloc (.cells (newCells 0 0 0 0 0 0).toArray 71)).alloc (.cells #[.pointer none, .pointer (some ⟨g0 + 1, 0, none⟩)] 26)) := by
    subst hg0
    have h1 := (((Made.start w).bk 61 (k.cs A c B d)).conn0).bk 26 [.pointer none, .pointer (some ⟨w.heap.size + 1, 0, none⟩)]
    have h2 := h1.nilside
    have e1 : (w.alloc (.cells (k.cs A c B d).toArray 61)).heap.size = w.heap.size + 1 := by simp
    have e2 : ((w.alloc (.cells (k.cs A c B d).toArray 61)).alloc (.cells (newCells 0 0 0 0 0 0).toArray 71)).heap.size = w.heap.size + 2 := by simp
    rw [e1, e2, hds] at h2
    rw [hds]
    exact ⟨_, _, h2⟩
  have hd2 : #[Value.int IntKind.i64 k.op, Value.int IntKind.i64 k.n, Value.slice A k.b.length c, Value.int IntKind.i64 k.p.src, Value.int IntKind.i64 k.p.dst, Value.int IntKind.i64 k.p.sp, Value.int IntKind.i64 k.p.dp, Value.int IntKind.u32 ↑k.p.seq, Value.int IntKind.u32 ↑k.p.ack, Value.int IntKind.i64 k.p.fl, Value.int IntKind.i64 k.p.wn, Value.int IntKind.i64 k.p.pr, Value.int IntKind.i64 k.p.og, Value.slice B k.p.data.length d, Value.bool k.near] = (k.cs A c B d).toArray := rfl
  rw [hg0, hd2]
  refine name_world (fun W => Nb w (g0 + 1) g0 (g0 + 2) ds [.pointer none, .pointer (some ⟨g0 + 1, 0, none⟩)] W) hst ?_
  intro w1 hn1
  have HDS := Lib.hid hds
  have HN1 := Lib.hid hn1
  clear hst hds hg0 hn1
  obtain ⟨n, hn⟩ : ∃ n, k.p.data.length = n := ⟨_, rfl⟩
  have HL := Lib.hid hn
  obtain ⟨bl, hbl⟩ : ∃ bl, k.b.length = bl := ⟨_, rfl⟩
  have HBL := Lib.hid hbl
  obtain ⟨gr, hgr⟩ : ∃ gr, g0 + 2 = gr := ⟨_, rfl⟩
  rw [hgr] at HN1 ⊢
  clear hd2 hn hbl hgr
  go_wp2_with fail
  go_loopg [9] 2 (fun gk v wr => ∃ m : Nat, v = .int .i64 (m : Int) ∧ m + gk = 2 ∧ Hid (Nb w (g0 + 1) g0 gr ds [.pointer none, .pointer (some ⟨g0 + 1, 0, none⟩)] wr))
  case atStart => exact ⟨0, rfl, by omega, HN1⟩
  case round =>
    obtain ⟨m, rfl, hmg, hinv⟩ := hrel
    by_cases hm : m < 2
    · have hmi : (m : Int) < 2 := by omega
      have hwm : IntKind.i64.wrap ((m : Int) + 1) = ((m + 1 : Nat) : Int) := by rw [IntWalk.i64_in _ (by omega)]; omega
      obtain ⟨va, vb, hmd⟩ := hinv.out
      obtain ⟨kb, hkb, hcell⟩ : ∃ kb, (kb = none ∨ kb = some (g0 + 1)) ∧ wr.cell? ⟨gr, m, none⟩ = some (ptr kb) := by
        have hb := (hmd.1.get 2 rfl).1
        rcases Nat.lt_or_ge m 1 with h0 | h1
        · obtain rfl : m = 0 := by omega
          exact ⟨none, .inl rfl, hb.cell rfl⟩
        · obtain rfl : m = 1 := by omega
          exact ⟨some (g0 + 1), .inr rfl, hb.cell rfl⟩
      obtain ⟨pv, hpv⟩ : ∃ pv, ptr kb = pv := ⟨_, rfl⟩
      rw [hpv] at hcell
      have HCS := Lib.hid (fun (W : World) (h : Nb w (g0 + 1) g0 gr ds [.pointer none, .pointer (some ⟨g0 + 1, 0, none⟩)] W) => (show BK W g0 61 (k.cs A c B d) from by rw [HDS.out]; exact (h.choose_spec.choose_spec.1.get 0 rfl).1))
      have HTA := Lib.hid (fun (W : World) (h : Nb w (g0 + 1) g0 gr ds [.pointer none, .pointer (some ⟨g0 + 1, 0, none⟩)] W) => nb_take hkb h k.p B n d HL.out (by have := H.out.dc; rw [HL.out] at this; exact this) ⟨H.out.pin.1, H.out.pin.2⟩ H.out.rd)
      have HTI := Lib.hid (fun (W : World) (h : Nb w (g0 + 1) g0 gr ds [.pointer none, .pointer (some ⟨g0 + 1, 0, none⟩)] W) => nb_tick hkb h)
      have HCL := Lib.hid (fun (W : World) (h : Nb w (g0 + 1) g0 gr ds [.pointer none, .pointer (some ⟨g0 + 1, 0, none⟩)] W) => nb_close hkb h)
      have HAB := Lib.hid (fun (W : World) (h : Nb w (g0 + 1) g0 gr ds [.pointer none, .pointer (some ⟨g0 + 1, 0, none⟩)] W) => nb_abort hkb h)
      have HWR := Lib.hid (fun (W : World) (h : Nb w (g0 + 1) g0 gr ds [.pointer none, .pointer (some ⟨g0 + 1, 0, none⟩)] W) => nb_write hkb h A bl c)
      have HRO := Lib.hid (fun (W : World) (h : Nb w (g0 + 1) g0 gr ds [.pointer none, .pointer (some ⟨g0 + 1, 0, none⟩)] W) => nb_room hkb h)
      have HRE := Lib.hid (fun (W : World) (h : Nb w (g0 + 1) g0 gr ds [.pointer none, .pointer (some ⟨g0 + 1, 0, none⟩)] W) => nb_read hkb h k.n)
      have HOU := Lib.hid (fun (W : World) (h : Nb w (g0 + 1) g0 gr ds [.pointer none, .pointer (some ⟨g0 + 1, 0, none⟩)] W) => nb_out hkb h)
      have HEN := Lib.hid (fun (W : World) (h : Nb w (g0 + 1) g0 gr ds [.pointer none, .pointer (some ⟨g0 + 1, 0, none⟩)] W) => nb_end hkb h)
      rw [hpv] at HTA HTI HCL HAB HWR HRO HRE HOU HEN
      have hk := HCS.out _ hinv.out
      have q0 : wr.cell? ⟨g0, 3, none⟩ = some (.int .i64 k.p.src) := hk.cell rfl
      have q1 : wr.cell? ⟨g0, 4, none⟩ = some (.int .i64 k.p.dst) := hk.cell rfl
      have q2 : wr.cell? ⟨g0, 5, none⟩ = some (.int .i64 k.p.sp) := hk.cell rfl
      have q3 : wr.cell? ⟨g0, 6, none⟩ = some (.int .i64 k.p.dp) := hk.cell rfl
      have q4 : wr.cell? ⟨g0, 7, none⟩ = some (.int .u32 (k.p.seq : Int)) := hk.cell rfl
      have q5 : wr.cell? ⟨g0, 8, none⟩ = some (.int .u32 (k.p.ack : Int)) := hk.cell rfl
      have q6 : wr.cell? ⟨g0, 9, none⟩ = some (.int .i64 k.p.fl) := hk.cell rfl
      have q7 : wr.cell? ⟨g0, 10, none⟩ = some (.int .i64 k.p.wn) := hk.cell rfl
      have q8 : wr.cell? ⟨g0, 11, none⟩ = some (.int .i64 k.p.pr) := hk.cell rfl
      have q9 : wr.cell? ⟨g0, 12, none⟩ = some (.int .i64 k.p.og) := hk.cell rfl
      have q10 : wr.cell? ⟨g0, 13, none⟩ = some (.slice B n d) := by rw [← HL.out]; exact hk.cell rfl
      simp only [Pk.cs] at HTA
      clear hk hmd hpv
      go_wp2_with fail
      refine (HTA.out _ hinv.out).mono ?_
      rintro e w2 ⟨rfl, h2⟩
      have H2 := Lib.hid h2
      clear h2 q0 q1 q2 q3 q4 q5 q6 q7 q8 q9 q10 hcell HTA hinv
      go_wp2_with fail
      refine (HTI.out _ H2.out).mono ?_
      rintro e w3 ⟨rfl, h3⟩
      have H3 := Lib.hid h3
      clear h3 H2 HTI
      go_wp2_with fail
      refine (HCL.out _ H3.out).mono ?_
      rintro e w4 ⟨rfl, h4⟩
      have H4 := Lib.hid h4
      clear h4 H3 HCL
      go_wp2_with fail
      refine (HAB.out _ H4.out).mono ?_
      rintro e w5 ⟨rfl, h5⟩
      have H5 := Lib.hid h5
      have q2 : w5.cell? ⟨g0, 2, none⟩ = some (.slice A bl c) := by rw [← HBL.out]; exact (HCS.out _ h5).cell rfl
      clear h5 H4 HAB
      go_wp2_with fail
      refine (HWR.out _ H5.out).mono ?_
      rintro e w6 ⟨rfl, h6⟩
      have H6 := Lib.hid h6
      clear h6 H5 HWR q2
      go_wp2_with fail
      refine (HRO.out _ H6.out).mono ?_
      rintro e w7 ⟨rfl, h7⟩
      have H7 := Lib.hid h7
      have q1 : w7.cell? ⟨g0, 1, none⟩ = some (.int .i64 k.n) := (HCS.out _ h7).cell rfl
      clear h7 H6 HRO
      go_wp2_with fail
      refine (HRE.out _ H7.out).mono ?_
      rintro e w8 ⟨A8, c8, rfl, h8⟩
      have H8 := Lib.hid h8
      clear h8 H7 HRE q1
      go_wp2_with fail
      refine (HOU.out _ H8.out).mono ?_
      rintro e w9 ⟨A9, c9, rfl, h9⟩
      have H9 := Lib.hid h9
      clear h9 H8 HOU
      go_wp2_with fail
      refine (HEN.out _ H9.out).mono ?_
      rintro e w10 ⟨rfl, h10⟩
      have H10 := Lib.hid h10
      have hz := end_ne0
      clear h10 H9 HEN
      go_wp2_with fail
      go_roundg (gk - 1)
      case measure => omega
      case rel => exact ⟨m + 1, by first | rfl | (congr 1), by omega, H10⟩
    · obtain rfl : m = 2 := by omega
      have H10 := hinv
      clear hinv
      go_wp2_with fail
      refine (HAW.out _).mono ?_
      rintro e w2 ⟨rfl, hb⟩
      have HB := Lib.hid hb
      obtain ⟨va, vb, hmd⟩ := H10.out
      have HF := Lib.hid (hmd.2.trans (hb.mono hmd.2.size))
      clear hb hmd
      go_wp2_with fail
      go_ret
      exact ⟨rfl, HF.out⟩
end Go.Proofs.Ytjhnnnklfhbebaa
