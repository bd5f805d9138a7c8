/- tcp: refuse: the walk (printed by gen.py). tcp: what an endpoint always keeps (plain); push, again, late, Tick. tcp: again, late: the walks. tcp: Tick: the walk, and what it keeps. -/
import Derived.Test.YtjhnnnklfhbebaaTb
import Derived.Test.YtjhnnnklfhbebaaPkH
namespace Go.Proofs.Ytjhnnnklfhbebaa
open Go.RowKit
set_option linter.unusedVariables false
set_option linter.unusedSimpArgs false
section
variable {N : Nat → Prop} {w : World} {k : Nat} {s : TS} {vp : Value}
set_option maxRecDepth 100000 in
set_option maxHeartbeats 2000000 in
theorem refuse_calls (h : ConnIs N w k s vp) (hN : ∀ b, N b → b < w.heap.size) (hb : s.Bd) (p : Pk) (A : Option Addr) (n c : Nat) (hn : p.data.length = n) (hl : n ≤ 100000) (hseq : p.seq < 4294967296) (hack : p.ack < 4294967296) :
    Calls Try.prog 46 #[.pointer (some ⟨k, 0, none⟩), .agg (p.cs A n c).toArray] w (Did N w k vp (s.refuse p) (.tuple #[])) := by
  obtain ⟨P, hP⟩ : ∃ P, (p.refuse n).1 = P := ⟨_, rfl⟩
  obtain ⟨B, hB⟩ : ∃ B, (p.refuse n).2 = B := ⟨_, rfl⟩
  have HRF := Lib.hid (refuse_n p A n c hl hseq)
  rw [hP, hB] at HRF
  have HSR : Hid (s.refuse p = if B = true then { s with pack := s.pack ++ [P] } else s) := Lib.hid (by unfold TS.refuse; rw [hn, hP, hB])
  have hpd0 : P.data = [] := by
    rw [← hP]
    unfold Pk.refuse
    split <;> rfl
  have hpq : P.seq < 4294967296 := by
    rw [← hP]
    unfold Pk.refuse
    split
    · dsimp only
      split
      · decide
      · exact hack
    · decide
  have hpa : P.ack < 4294967296 := by
    rw [← hP]
    unfold Pk.refuse
    split
    · exact Nat.mod_lt _ (by decide)
    · decide
  have hpd : P.data = ([] : List UInt8) := hpd0
  have hpc : P.cs none 0 0 = [.int .i64 P.src, .int .i64 P.dst, .int .i64 P.sp, .int .i64 P.dp, .int .u32 (P.seq : Int), .int .u32 (P.ack : Int), .int .i64 P.fl, .int .i64 P.wn, .int .i64 P.pr, .int .i64 P.og, .slice none 0 0] := rfl
  have HPC := Lib.hid hpc
  have HPD := Lib.hid hpd
  have hpk := hb.pack
  have H := Lib.hid h
  have HNN := Lib.hid hN
  have hlt := h.lt.1
  obtain ⟨S, hS⟩ : ∃ S, w.heap.size = S := ⟨_, rfl⟩
  have HS := Lib.hid hS
  clear hS h hN hb hP hB hpd0 hpd hpc hn hseq hack
  simp only [Pk.cs] at HRF ⊢
  go_enter Try.func46, Try.ntmps46
  go_wp2_with fail

  refine (HRF.out _).mono ?_
  rintro e w1 ⟨rfl, hb1⟩
  have hb0 : Below S w w1 := by
    have h0 : Below w.heap.size w w1 := (ext_alloc _ _).trans (hb1.mono (by simp))
    exact HS.out ▸ h0
  have HB1 := Lib.hid hb0
  clear hb1 hb0 HRF
  cases B with
  | false =>
    have HX : Hid (s.refuse p = s) := Lib.hid (by rw [HSR.out]; exact if_neg (by decide))
    clear HSR
    go_wp2_with fail
    go_end0
    exact ⟨vp, rfl, by rw [HX.out]; exact H.out.ext (HS.out ▸ HB1.out.trans (Below.alloc (Below.refl _ _) (by have := HB1.out.size; have := HS.out; omega) _)), Chg.below (HS.out ▸ HB1.out.trans (Below.alloc (Below.refl _ _) (by have := HB1.out.size; have := HS.out; omega) _)), After.refl _ _⟩
  | true =>
    have HX : Hid (s.refuse p = { s with pack := s.pack ++ [P] }) := Lib.hid (by rw [HSR.out]; exact if_pos rfl)
    clear HSR
    go_upto_region 3 with fail
    obtain ⟨g, hg⟩ : ∃ g, w1.heap.size = g := ⟨_, rfl⟩
    have hSg : S ≤ g := by have := HB1.out.size; have := HS.out; omega
    have hgk : k ≠ g := by have := HS.out; omega
    rw [hg]
    refine name_world (fun W => BK W g 32 [.int .i64 P.src, .int .i64 P.dst, .int .i64 P.sp, .int .i64 P.dp, .int .u32 (P.seq : Int), .int .u32 (P.ack : Int), .int .i64 P.fl, .int .i64 P.wn, .int .i64 P.pr, .int .i64 P.og, .slice none 0 0] ∧ Below S w W ∧ g < W.heap.size) ⟨hg ▸ BK.new _ _ _, HB1.out.alloc (by omega) _, by simp [hg]⟩ ?_
    rintro w7 ⟨hk7, hb7, hgl⟩
    have HK := Lib.hid hk7
    have HB := Lib.hid hb7
    have HO : Hid (OwnB S 5 w7 (.slice none 0 0) ([] : List UInt8)) := Lib.hid (OwnB.nil _ _ _)
    have hSw7 : S ≤ w7.heap.size := by omega
    clear hk7 hb7 hg HB1
    have H7 : Hid (ConnIs N w7 k s vp) := Lib.hid (H.out.ext (HS.out.symm ▸ HB.out))
    obtain ⟨Z, hZ⟩ : ∃ Z, w7.heap.size = Z := ⟨_, rfl⟩
    have HZ := Lib.hid hZ
    have hvlt := H.out.lt.2
    rw [HS.out] at hvlt hlt
    have HROW : Hid (∀ b, vp.ownBlock = some b → b < Z) := Lib.hid fun b h => by have := hvlt b h; omega
    have HVS := Lib.hid hvlt
    have hkz : k < w7.heap.size := by omega
    have C2073 := Lib.hid H7.out.cellP
    have HKG : Hid (∀ W : World, Chg k vp w7 W → BK W g 32 [.int .i64 P.src, .int .i64 P.dst, .int .i64 P.sp, .int .i64 P.dp, .int .u32 (P.seq : Int), .int .u32 (P.ack : Int), .int .i64 P.fl, .int .i64 P.wn, .int .i64 P.pr, .int .i64 P.og, .slice none 0 0]) := Lib.hid fun W hc => HK.out.same (hc.block g hgl (fun e => hgk e.symm) (fun e => by have := HVS.out g e; omega))
    have HI0 : Hid (Chg k vp w7 w7.drew ∧ w7.drew.heap[k]? = w7.heap[k]?) := Lib.hid ⟨(Chg.refl k vp w7).drew, rfl⟩
    have HCT : Hid (∀ W W' : World, Chg k vp w7 W → W.grownBy W' vp.ownBlock → Chg k vp w7 W') := Lib.hid fun W W' hc hg => by
      cases hb : vp.ownBlock with
      | none => rw [hb] at hg; exact hc.trans (Chg.below ⟨hg.os, hg.tape, hg.output, hg.size, fun i hi => hg.block i hi (by simp)⟩) (After.refl _ _)
      | some b => rw [hb] at hg; exact hc.trans (Chg.grown hg (.inr hb)) (After.refl _ _)
    have HPA : Hid (∀ (W W' : World) (v' : Value) (xs : List Value), Chg k vp w7 W → PkRow (NN N k vp) W s.pack xs → OwnB S 5 W (.slice none 0 0) ([] : List UInt8) → (∀ b, vp.ownBlock = some b → ¬ N b ∧ b ≠ k) → W'.ownsRow 0 32 11 v' (s.pack.length + 1) (xs ++ [.int .i64 P.src, .int .i64 P.dst, .int .i64 P.sp, .int .i64 P.dp, .int .u32 (P.seq : Int), .int .u32 (P.ack : Int), .int .i64 P.fl, .int .i64 P.wn, .int .i64 P.pr, .int .i64 P.og, .slice none 0 0]) → W.grownBy W' vp.ownBlock → (v'.ownBlock = vp.ownBlock ∨ v'.ownBlock = some W.heap.size) → PackAt N w7 k vp (s.pack ++ [P]) v' W') := Lib.hid fun W W' v' xs hc hx ho hnv hx3 hg3 hv3 => by
      have hzW := hc.size
      have hNS : ∀ b, NN N k vp b → b < S := fun b hb => by
        rcases hb with hb | hb | hb
        · have := HNN.out b hb; rw [HS.out] at this; exact this
        · omega
        · exact HVS.out b hb
      refine ⟨PackIs.append hx (show (0 : Nat) = P.data.length by rw [HPD.out]; rfl) (by rw [HPD.out]; exact SlN.of_own ho hNS) hpq hpa (fun b e => .inr (.inr e)) hg3 hv3 (by have hx4 := hx3; rw [← HPC.out] at hx4; exact hx4) fun b hb => ?_, fun b e => ?_, fun b e => ?_⟩
      · rcases hb with hb | hb | hb
        · exact .inl (.inl hb)
        · exact .inl (.inr (.inl hb))
        · exact .inr hb
      · rcases hv3 with e3 | e3
        · exact hnv b (e3 ▸ e)
        · rw [e3] at e
          have := Option.some.inj e
          subst this
          refine ⟨fun hb => ?_, by omega⟩
          have := HNN.out _ hb
          rw [HS.out] at this
          omega
      · rcases hv3 with e3 | e3
        · exact .inl (e3 ▸ e)
        · rw [e3] at e
          have := Option.some.inj e
          exact .inr (by omega)
    have HFIN : Hid (∀ (W : World) (v : Value), Chg k vp w7 W → W.heap[k]? = w7.heap[k]? → PackAt N w7 k vp (s.pack ++ [P]) v W → ∃ v1, ConnIs N (W.setCell ⟨k, 2073, none⟩ v) k { s with pack := s.pack ++ [P] } v1 ∧ Chg k vp w7 (W.setCell ⟨k, 2073, none⟩ v) ∧ After w7 vp v1) := Lib.hid fun W v hc hk hp => by
      refine ⟨v, H7.out.setP { s with pack := s.pack ++ [P] } v (hp.1) hp.2.1 hc hk hp.2.2 (fun _ _ => rfl) (fun _ _ => rfl) rfl rfl rfl (fun e => ⟨e, rfl⟩), hc.trans (Chg.grown (grown_setCell _ _ _ _) (.inl rfl)) (After.refl _ _), hp.2.2⟩
    clear hZ hvlt hpq hpa
    refine wp_region_fin [[], [], [1], [1, 2], [1, 2, 3], [], [5], [1, 2, 3, 4, 5, 6], [0, 1, 2, 3, 4, 5, 6, 7], [0, 1, 2, 3, 4, 5, 6, 7, 8], [0, 1, 2, 3, 4, 5, 6, 7, 8, 9]]
      [fun u _ => u = .pointer (some ⟨k, 0, none⟩),
       fun u _ => u = .pointer (some ⟨k, 0, none⟩),
       fun u _ => u = .pointer (some ⟨k, 0, none⟩),
       fun u _ => u = .pointer (some ⟨k, 2073, none⟩),
       fun u _ => u = vp,
       fun u _ => u = .agg #[.int .i64 P.src, .int .i64 P.dst, .int .i64 P.sp, .int .i64 P.dp, .int .u32 (P.seq : Int), .int .u32 (P.ack : Int), .int .i64 P.fl, .int .i64 P.wn, .int .i64 P.pr, .int .i64 P.og, .slice none 0 0],
       fun u w => SlPk Z [.int .i64 P.src, .int .i64 P.dst, .int .i64 P.sp, .int .i64 P.dp, .int .u32 (P.seq : Int), .int .u32 (P.ack : Int), .int .i64 P.fl, .int .i64 P.wn, .int .i64 P.pr, .int .i64 P.og, .slice none 0 0] u w,
       fun u w => PackAt N w7 k vp (s.pack ++ [P]) u w,
       fun u _ => u = .pointer (some ⟨k, 0, none⟩),
       fun u _ => u = .pointer (some ⟨k, 2073, none⟩)]
      (fun u => ⟨#[Value.pointer (some { block := k, off := 0 }), Value.agg #[Value.int IntKind.i64 p.src, Value.int IntKind.i64 p.dst, Value.int IntKind.i64 p.sp, Value.int IntKind.i64 p.dp, Value.int IntKind.u32 (p.seq : Int), Value.int IntKind.u32 (p.ack : Int), Value.int IntKind.i64 p.fl, Value.int IntKind.i64 p.wn, Value.int IntKind.i64 p.pr, Value.int IntKind.i64 p.og, Value.slice A n c], undef, Value.pointer (some { block := w.heap.size, off := 0 }), Value.pointer (some { block := g, off := 0 }), Value.bool true, Value.tuple #[Value.agg #[Value.int IntKind.i64 P.src, Value.int IntKind.i64 P.dst, Value.int IntKind.i64 P.sp, Value.int IntKind.i64 P.dp, Value.int IntKind.u32 (P.seq : Int), Value.int IntKind.u32 (P.ack : Int), Value.int IntKind.i64 P.fl, Value.int IntKind.i64 P.wn, Value.int IntKind.i64 P.pr, Value.int IntKind.i64 P.og, Value.slice none 0 0], Value.bool true], Value.agg #[Value.int IntKind.i64 p.src, Value.int IntKind.i64 p.dst, Value.int IntKind.i64 p.sp, Value.int IntKind.i64 p.dp, Value.int IntKind.u32 (p.seq : Int), Value.int IntKind.u32 (p.ack : Int), Value.int IntKind.i64 p.fl, Value.int IntKind.i64 p.wn, Value.int IntKind.i64 p.pr, Value.int IntKind.i64 p.og, Value.slice A n c], Value.tuple #[Value.agg #[Value.int IntKind.i64 P.src, Value.int IntKind.i64 P.dst, Value.int IntKind.i64 P.sp, Value.int IntKind.i64 P.dp, Value.int IntKind.u32 (P.seq : Int), Value.int IntKind.u32 (P.ack : Int), Value.int IntKind.i64 P.fl, Value.int IntKind.i64 P.wn, Value.int IntKind.i64 P.pr, Value.int IntKind.i64 P.og, Value.slice none 0 0], Value.bool true], Value.agg #[Value.int IntKind.i64 P.src, Value.int IntKind.i64 P.dst, Value.int IntKind.i64 P.sp, Value.int IntKind.i64 P.dp, Value.int IntKind.u32 (P.seq : Int), Value.int IntKind.u32 (P.ack : Int), Value.int IntKind.i64 P.fl, Value.int IntKind.i64 P.wn, Value.int IntKind.i64 P.pr, Value.int IntKind.i64 P.og, Value.slice none 0 0], Value.bool true, Value.bool true, u 0, u 1, u 2, u 3, u 4, u 5, u 6, u 7, u 8, u 9], []⟩)
      (fun W => Chg k vp w7 W ∧ W.heap[k]? = w7.heap[k]?) (fun W => ConnIs N W k s vp ∧ OwnB S 5 W (.slice none 0 0) ([] : List UInt8)) vp.ownBlock 7 10 (fun _ W => ∃ v1, ConnIs N W k { s with pack := s.pack ++ [P] } v1 ∧ Chg k vp w7 W ∧ After w7 vp v1) (fun j => [undef, undef, undef, undef, undef, undef, undef, undef, undef, undef, undef].getD j undef) (by kernel_rfl) (by kernel_rfl) (by kernel_rfl) rfl (by kernel_rfl) (Nat.le_of_eq rfl) ⟨Mono.eq _, Mono.eq _, Mono.eq _, Mono.eq _, Mono.eq _, Mono.eq _, SlPk.mono _ _, PackAt.mono _ _ _ _ _, Mono.eq _, Mono.eq _, trivial⟩ ⟨.inr (.inr (MonoRow.eq _ _)), ⟨.inr (.inr (MonoRow.eq _ _)), ⟨.inr (.inr (MonoRow.eq _ _)), ⟨.inr (.inr (MonoRow.eq _ _)), ⟨.inr (.inr (MonoRow.eq _ _)), ⟨.inr (.inr (MonoRow.eq _ _)), ⟨.inr (.inr (SlPk.monoRow _ HROW.out)), ⟨.inl rfl, ⟨.inr (.inr (MonoRow.eq _ _)), ⟨.inr (.inr (MonoRow.eq _ _)), trivial⟩⟩⟩⟩⟩⟩⟩⟩⟩⟩
      (fun _ _ h1 h2 => ⟨h2.1.ext h1, h2.2.ext h1⟩) (fun _ _ _ h => h) (HI0.out) (⟨H7.out, HO.out⟩) ?_ ?_
    · refine ⟨?_, ?_, ?_, ?_, ?_, ?_, ?_, ?_, ?_, ?_, ?_, trivial⟩
      · intro u w2 hb hS hG hF hU J K hJ hK
        have HB2 := Lib.hid hb
        have HS2 := Lib.hid hS
        have HG2 := Lib.hid hG
        have HF := Lib.hid hF
        clear hb hF hS hG hU
        go_wp2
        exact hJ _ _ _ (Nat.le_refl _) (fun _ => ⟨HB2.out, fun _ => Below.refl _ _, fun h => absurd h (by decide), rfl⟩) (fun h => absurd h (by decide)) (by simp [setU] <;> omega)
      · intro u w2 hb hS hG hF hU J K hJ hK
        have HB2 := Lib.hid hb
        have HS2 := Lib.hid hS
        have HG2 := Lib.hid hG
        have HF := Lib.hid hF
        clear hb hF hS hG hU
        go_wp2
        exact hJ _ _ _ (Nat.le_refl _) (fun _ => ⟨HB2.out, fun _ => Below.refl _ _, fun h => absurd h (by decide), rfl⟩) (fun h => absurd h (by decide)) (by simp [setU] <;> omega)
      · intro u w2 hb hS hG hF hU J K hJ hK
        have HB2 := Lib.hid hb
        have HS2 := Lib.hid hS
        have HG2 := Lib.hid hG
        have HF := Lib.hid hF
        clear hb hF hS hG hU
        have f1 : u 1 = .pointer (some ⟨k, 0, none⟩) := HF.out 1 (by decide)
        go_wp2
        exact hJ _ _ _ (Nat.le_refl _) (fun _ => ⟨HB2.out, fun _ => Below.refl _ _, fun h => absurd h (by decide), rfl⟩) (fun h => absurd h (by decide)) (by simp [setU, f1] <;> omega)
      · intro u w2 hb hS hG hF hU J K hJ hK
        have HB2 := Lib.hid hb
        have HS2 := Lib.hid hS
        have HG2 := Lib.hid hG
        have HF := Lib.hid hF
        clear hb hF hS hG hU
        have f2 : u 2 = .pointer (some ⟨k, 0, none⟩) := HF.out 2 (by decide)
        go_wp2
        exact hJ _ _ _ (Nat.le_refl _) (fun _ => ⟨HB2.out, fun _ => Below.refl _ _, fun h => absurd h (by decide), rfl⟩) (fun h => absurd h (by decide)) (by simp [setU, f2] <;> omega)
      · intro u w2 hb hS hG hF hU J K hJ hK
        have HB2 := Lib.hid hb
        have HS2 := Lib.hid hS
        have HG2 := Lib.hid hG
        have HF := Lib.hid hF
        clear hb hF hS hG hU
        have f3 : u 3 = .pointer (some ⟨k, 2073, none⟩) := HF.out 3 (by decide)
        have cc := (cell_same HB2.out.2 2073).trans C2073.out
        go_wp2
        exact hJ _ _ _ (Nat.le_refl _) (fun _ => ⟨HB2.out, fun _ => Below.refl _ _, fun h => absurd h (by decide), rfl⟩) (fun h => absurd h (by decide)) (by simp [setU, f3] <;> omega)
      · intro u w2 hb hS hG hF hU J K hJ hK
        have HB2 := Lib.hid hb
        have HS2 := Lib.hid hS
        have HG2 := Lib.hid hG
        have HF := Lib.hid hF
        clear hb hF hS hG hU
        have HKW := Lib.hid (HKG.out w2 HB2.out.1)
        have q0 := HKW.out.cell (i := 0) rfl
        have q1 := HKW.out.cell (i := 1) rfl
        have q2 := HKW.out.cell (i := 2) rfl
        have q3 := HKW.out.cell (i := 3) rfl
        have q4 := HKW.out.cell (i := 4) rfl
        have q5 := HKW.out.cell (i := 5) rfl
        have q6 := HKW.out.cell (i := 6) rfl
        have q7 := HKW.out.cell (i := 7) rfl
        have q8 := HKW.out.cell (i := 8) rfl
        have q9 := HKW.out.cell (i := 9) rfl
        have q10 := HKW.out.cell (i := 10) rfl
        go_wp2
        exact hJ _ _ _ (Nat.le_refl _) (fun _ => ⟨HB2.out, fun _ => Below.refl _ _, fun h => absurd h (by decide), rfl⟩) (fun h => absurd h (by decide)) (by simp [setU] <;> omega)
      · intro u w2 hb hS hG hF hU J K hJ hK
        have HB2 := Lib.hid hb
        have HS2 := Lib.hid hS
        have HG2 := Lib.hid hG
        have HF := Lib.hid hF
        clear hb hF hS hG hU
        have f5 : u 5 = .agg #[.int .i64 P.src, .int .i64 P.dst, .int .i64 P.sp, .int .i64 P.dp, .int .u32 (P.seq : Int), .int .u32 (P.ack : Int), .int .i64 P.fl, .int .i64 P.wn, .int .i64 P.pr, .int .i64 P.og, .slice none 0 0] := HF.out 5 (by decide)
        go_wp2
        exact hJ _ _ _ ((ext_alloc _ _).size) (fun _ => ⟨⟨HB2.out.1.trans (Chg.below (ext_alloc _ _)) (After.refl _ _), ((ext_alloc w2 _).block k (by have := HB2.out.1.size; omega)).trans HB2.out.2⟩, fun _ => ext_alloc _ _, fun h => absurd h (by decide), ⟨_, rfl, HZ.out ▸ HB2.out.1.size, BK.new _ _ _⟩⟩) (fun h => absurd h (by decide)) (by simp [setU, f5] <;> omega)
      · intro u w2 hb hS hG hF hU J K hJ hK
        have HB2 := Lib.hid hb
        have HS2 := Lib.hid hS
        have HG2 := Lib.hid hG
        have HF := Lib.hid hF
        clear hb hF hS hG hU
        have f4 : u 4 = vp := HF.out 4 (by decide)
        obtain ⟨b6, f6, hz6, hk6⟩ := HF.out 6 (by decide)
        have HK6 := Lib.hid hk6
        obtain ⟨hcn, hod⟩ := HG2.out rfl
        obtain ⟨vo, vi, fe, eh, _, _, _, _, _, _, ⟨xs, hx1, hx2⟩, hnk, hnv⟩ := hcn
        have HX1 := Lib.hid hx1
        have HX2 := Lib.hid hx2
        have HOD := Lib.hid hod
        have HNV := Lib.hid hnv
        obtain ⟨i0, hi0, hz0, hz1, hz2⟩ := info_parts infoPk
        clear hk6 hx1 hx2 hod hnv
        dsimp only
        rw [f4, f6]
        refine wpList_append_own_at w2 rfl _ _ 36 rfl 0 32 i0 (.agg zeroCs.toArray) 11 96 Try.underlying36 hi0 hz0 hz1 hz2 rfl (by decide) vp s.pack.length xs rfl HX1.out ⟨b6, 0, none⟩ 1 1 [.int .i64 P.src, .int .i64 P.dst, .int .i64 P.sp, .int .i64 P.dp, .int .u32 (P.seq : Int), .int .u32 (P.ack : Int), .int .i64 P.fl, .int .i64 P.wn, .int .i64 P.pr, .int .i64 P.og, .slice none 0 0] rfl rfl (fun j u hj => by rw [add_pl, Nat.zero_add]; exact HK6.out.cell hj) (by simp [Value.oneCell']) (by unfold maxLen; omega) (by omega) (Nat.zero_le _) ?_
        intro v3 w3 hx3 hg3 _ hv3
        have HP3 : Hid (PackAt N w7 k vp (s.pack ++ [P]) v3 w3) := Lib.hid (HPA.out w2 w3 v3 xs HB2.out.1 HX2.out HOD.out HNV.out hx3 hg3 hv3)
        have HI3 : Hid (Chg k vp w7 w3 ∧ w3.heap[k]? = w7.heap[k]?) := Lib.hid ⟨HCT.out w2 w3 HB2.out.1 hg3, (hg3.block k (by have := HB2.out.1.size; omega) (fun e => (HNV.out k e.symm).2 rfl)).trans HB2.out.2⟩
        have HG3 := Lib.hid hg3
        clear hx3 hg3 hv3
        go_wp2
        exact hJ _ _ _ (HG3.out.size) (fun _ => ⟨HI3.out, fun h => absurd rfl h, fun _ => HG3.out, HP3.out⟩) (fun h => absurd h (by decide)) (by simp [setU, f4, f6] <;> omega)
      · intro u w2 hb hS hG hF hU J K hJ hK
        have HB2 := Lib.hid hb
        have HS2 := Lib.hid hS
        have HG2 := Lib.hid hG
        have HF := Lib.hid hF
        clear hb hF hS hG hU
        have f0 : u 0 = .pointer (some ⟨k, 0, none⟩) := HF.out 0 (by decide)
        go_wp2
        exact hJ _ _ _ (Nat.le_refl _) (fun _ => ⟨HB2.out, fun _ => Below.refl _ _, fun h => absurd h (by decide), rfl⟩) (fun h => absurd h (by decide)) (by simp [setU, f0] <;> omega)
      · intro u w2 hb hS hG hF hU J K hJ hK
        have HB2 := Lib.hid hb
        have HS2 := Lib.hid hS
        have HG2 := Lib.hid hG
        have HF := Lib.hid hF
        clear hb hF hS hG hU
        have f8 : u 8 = .pointer (some ⟨k, 0, none⟩) := HF.out 8 (by decide)
        go_wp2
        exact hJ _ _ _ (Nat.le_refl _) (fun _ => ⟨HB2.out, fun _ => Below.refl _ _, fun h => absurd h (by decide), rfl⟩) (fun h => absurd h (by decide)) (by simp [setU, f8] <;> omega)
      · intro u w2 hb hS hG hF hU J K hJ hK
        have HB2 := Lib.hid hb
        have HS2 := Lib.hid hS
        have HG2 := Lib.hid hG
        have HF := Lib.hid hF
        clear hb hF hS hG hU
        have f9 : u 9 = .pointer (some ⟨k, 2073, none⟩) := HF.out 9 (by decide)
        have hp7 := HF.out 7 (by decide)
        obtain ⟨A7, m7, c7, f7⟩ := PackIs.form' hp7.1
        have HP7 : Hid (PackAt N w7 k vp (s.pack ++ [P]) (u 7) w2) := Lib.hid hp7
        rw [f7] at HP7
        have cc := (cell_same HB2.out.2 2073).trans C2073.out
        have ff := (frozen_same HB2.out.2 2073).trans (H7.out.frozen 2073)
        clear hp7
        dsimp only
        rw [f7, f9]
        go_wp2
        exact hJ undef _ _ ((by simp [World.setCell])) (fun h => absurd rfl h) (fun _ => HFIN.out w2 _ HB2.out.1 HB2.out.2 HP7.out) (by simp [setU, f7, f9] <;> omega)
    · intro u w2 hS hFL
      have HS2 := Lib.hid hS
      have HFL := Lib.hid hFL
      clear hS hFL
      obtain ⟨v1, hv1, hc1, ha1⟩ := HFL.out
      have HC1 := Lib.hid hv1
      have HG1 := Lib.hid hc1
      have HA1 := Lib.hid ha1
      clear HFL hv1 hc1 ha1
      try dsimp only
      go_wp2_with fail
      go_end0
      exact ⟨v1, rfl, by rw [HX.out]; exact HC1.out, (Chg.below (HS.out.symm ▸ HB.out)).trans HG1.out (After.refl _ _), HA1.out.earlier (HS.out ▸ HB.out).size⟩
end
end Go.Proofs.Ytjhnnnklfhbebaa
namespace Go.Proofs.Ytjhnnnklfhbebaa
open Go.RowKit
set_option linter.unusedVariables false
set_option linter.unusedSimpArgs false
/-- What an endpoint keeps, whatever befalls it. -/
structure TS.Ok (s : TS) : Prop where
  inn : s.inn.length ≤ 1024
  out : s.out.length ≤ 1024
  irs : s.irs < 4294967296
  iss : s.iss < 4294967296
  w0 : 0 ≤ s.wnd
  w1 : s.wnd ≤ 65535
  st : s.state ≤ 5
  sn : s.state ≠ 5 → s.una ≤ s.nxt ∧ s.nxt ≤ s.top ∧ s.top ≤ s.una + s.out.length + 1
  early : s.early.length = 1024
  win : ∀ i, s.window ≤ i → s.early.getD i none = none
  fe : s.told = true → s.fin = false → s.rcv ≤ s.fend ∧ s.fend ≤ s.rcv + s.window
  tim : s.dead = false → s.timer ≤ 3 ∧ s.tries ≤ 30 ∧ s.idle ≤ 127
  u1 : s.state = 3 → 1 ≤ s.una
namespace TS
variable {s : TS}
theorem Ok.bd (h : s.Ok) (hp : s.pack.length ≤ 900000) : s.Bd := ⟨h.inn, h.out, hp, h.irs, h.iss⟩
theorem Ok.sn' (h : s.Ok) (h5 : s.state ≠ 5) : s.Sn := ⟨(h.sn h5).1, (h.sn h5).2.1, (h.sn h5).2.2, h.w0, h.w1⟩
theorem Ok.packed (h : s.Ok) (ps : List Pk) : ({ s with pack := ps } : TS).Ok := ⟨h.inn, h.out, h.irs, h.iss, h.w0, h.w1, h.st, h.sn, h.early, h.win, h.fe, h.tim, h.u1⟩
theorem Ok.emit (h : s.Ok) (fl at_ : Nat) (d : List UInt8) : (s.emit fl at_ d).Ok := h.packed _
theorem Ok.ack (h : s.Ok) : s.ack.Ok := h.emit _ _ _
theorem Ok.syn (h : s.Ok) : s.syn.Ok := by unfold TS.syn; split <;> exact h.emit _ _ _
theorem Ok.refuse (h : s.Ok) (p : Pk) : (s.refuse p).Ok := by unfold TS.refuse; split; exact h.packed _; exact h
theorem Ok.reset (h : s.Ok) : s.reset.Ok := ⟨Nat.zero_le _, Nat.zero_le _, h.irs, h.iss, h.w0, h.w1, Nat.le_refl _, fun e => absurd rfl e, h.early, fun i hi => by
    have : s.early.length ≤ i := by rw [h.early]; exact hi
    show s.early.getD i none = none
    rw [List.getD_eq_getElem?_getD, List.getElem?_eq_none this]
    rfl, fun h1 h2 => ⟨(h.fe h1 h2).1, by
    have := (h.fe h1 h2).2
    show s.fend ≤ s.rcv + (1024 - 0)
    unfold TS.window at this
    omega⟩, fun e => by
    have : s.reset.dead = true := decide_eq_true (.inr (.inr rfl))
    rw [this] at e
    exact absurd e (by decide), fun e => absurd (show (5 : Nat) = 3 from e) (by decide)⟩
/-- On with sending: within what there is. -/
theorem Ok.on (h : s.Ok) (n : Nat) (hn : s.nxt + n ≤ s.una + s.out.length + 1) : (s.on n).Ok := ⟨h.inn, h.out, h.irs, h.iss, h.w0, h.w1, h.st, fun e => by
    have := h.sn e
    refine ⟨?_, ?_, ?_⟩
    · show s.una ≤ s.nxt + n
      omega
    · show s.nxt + n ≤ max s.top (s.nxt + n)
      omega
    · show max s.top (s.nxt + n) ≤ s.una + s.out.length + 1
      omega, h.early, h.win, h.fe, h.tim, h.u1⟩
theorem may_le (s : TS) : s.may ≤ (s.out.length : Int) - (s.off : Int) ∧ s.may ≤ 128 := by unfold TS.may; omega
theorem Ok.send (h : s.Ok) (h5 : s.state ≠ 5) (hm : 0 < s.may) : (s.send s.may.toNat).Ok := by
  have h1 := h.sn h5
  have h2 := (may_le s).1
  have h3 : s.off = s.nxt - s.una := rfl
  unfold TS.send
  exact (h.emit _ _ _).on _ (by show s.nxt + s.may.toNat ≤ s.una + s.out.length + 1; omega)
/-- What pushing keeps. -/
structure Kept (s s' : TS) : Prop where
  ok : s'.Ok
  state : s'.state = s.state
  sent : s'.sent = s.sent
  got : s'.got = s.got
  pre : ∃ ps, s'.pack = s.pack ++ ps
theorem Kept.refl (h : s.Ok) : Kept s s := ⟨h, rfl, rfl, rfl, [], (List.append_nil _).symm⟩
theorem Kept.trans {s1 s2 : TS} (h : Kept s s1) (h1 : Kept s1 s2) : Kept s s2 := ⟨h1.ok, h1.state.trans h.state, h1.sent.trans h.sent, h1.got.trans h.got, by
  obtain ⟨ps, e⟩ := h.pre
  obtain ⟨qs, e1⟩ := h1.pre
  exact ⟨ps ++ qs, by rw [e1, e, List.append_assoc]⟩⟩
theorem Kept.emit (h : s.Ok) (fl at_ : Nat) (d : List UInt8) : Kept s (s.emit fl at_ d) := ⟨h.emit _ _ _, rfl, rfl, rfl, [_], rfl⟩
theorem Kept.send (h : s.Ok) (h5 : s.state ≠ 5) (hm : 0 < s.may) : Kept s (s.send s.may.toNat) := ⟨h.send h5 hm, rfl, rfl, rfl, [_], rfl⟩
theorem kept_pushL : ∀ (f : Nat) (s : TS), s.Ok → s.state ≠ 5 → Kept s (pushL f s) ∧ (pushL f s).pack.length ≤ s.pack.length + (s.out.length - s.off)
  | 0, s, h, _ => ⟨.refl h, Nat.le_add_right _ _⟩
  | f + 1, s, h, h5 => by
    show Kept s (if s.may ≤ 0 then s else pushL f (s.send s.may.toNat)) ∧ (if s.may ≤ 0 then s else pushL f (s.send s.may.toNat)).pack.length ≤ s.pack.length + (s.out.length - s.off)
    split
    · exact ⟨.refl h, Nat.le_add_right _ _⟩
    · have hm : 0 < s.may := by omega
      have h1 := Kept.send h h5 hm
      obtain ⟨h2, h3⟩ := kept_pushL f _ h1.ok (h1.state ▸ h5)
      refine ⟨h1.trans h2, Nat.le_trans h3 ?_⟩
      have h4 := (may_le s).1
      have e1 : (s.send s.may.toNat).pack.length = s.pack.length + 1 := by
        show (s.pack ++ [_]).length = _
        rw [List.length_append]
        rfl
      have e2 : (s.send s.may.toNat).off = s.nxt + s.may.toNat - s.una := rfl
      have e3 : (s.send s.may.toNat).out = s.out := rfl
      have e4 : s.off = s.nxt - s.una := rfl
      have := h.sn h5
      rw [e1, e2, e3]
      omega
theorem kept_pushF (h : s.Ok) (h5 : s.state ≠ 5) : Kept s s.pushF ∧ s.pushF.pack.length ≤ s.pack.length + 1 := by
  unfold TS.pushF
  split
  · rename_i hc
    have h1 := h.sn h5
    have h2 : s.off = s.nxt - s.una := rfl
    have h3 := hc.2.2
    refine ⟨⟨(h.emit _ _ _).on 1 ?_, rfl, rfl, rfl, [_], rfl⟩, ?_⟩
    · show s.nxt + 1 ≤ s.una + s.out.length + 1
      omega
    · show (s.pack ++ [_]).length ≤ _
      rw [List.length_append]
      exact Nat.le_refl _
  · exact ⟨.refl h, Nat.le_add_right _ _⟩
theorem kept_push (h : s.Ok) : Kept s s.push ∧ s.push.pack.length ≤ s.pack.length + 1025 := by
  unfold TS.push
  split
  · rename_i h3
    have h5 : s.state ≠ 5 := by omega
    obtain ⟨h1, h2⟩ := kept_pushL (s.out.length + 1) s h h5
    obtain ⟨h4, h6⟩ := kept_pushF h1.ok (h1.state ▸ h5)
    have := h.out
    exact ⟨h1.trans h4, by omega⟩
  · exact ⟨.refl h, Nat.le_add_right _ _⟩
theorem Ok.back (h : s.Ok) : s.back.Ok := ⟨h.inn, h.out, h.irs, h.iss, h.w0, h.w1, h.st, fun e => by
    have := h.sn e
    refine ⟨Nat.le_refl _, ?_, this.2.2⟩
    show s.una ≤ s.top
    omega, h.early, h.win, h.fe, h.tim, h.u1⟩
theorem kept_again (h : s.Ok) : Kept s s.again ∧ s.again.pack.length ≤ s.pack.length + 1025 := by
  unfold TS.again
  split
  · rename_i hc
    refine ⟨⟨((h.back).emit _ _ _).on 1 ?_, rfl, rfl, rfl, [_], rfl⟩, ?_⟩
    · show s.una + 1 ≤ s.una + s.out.length + 1
      omega
    · show (s.pack ++ [_]).length ≤ _
      rw [List.length_append, List.length_singleton]
      omega
  · have h1 := kept_push h.back
    exact ⟨⟨h1.1.ok, h1.1.state, h1.1.sent, h1.1.got, h1.1.pre⟩, h1.2⟩
end TS
section
variable {N : Nat → Prop} {w : World} {k : Nat} {s : TS} {vp : Value}
/-- push. -/
theorem push_calls (h : ConnIs N w k s vp) (hN : ∀ b, N b → b < w.heap.size) (hb : s.Ok) (hp : s.pack.length ≤ 700000) :
    Calls Try.prog 76 #[.pointer (some ⟨k, 0, none⟩)] w (Did N w k vp s.push (.tuple #[])) := by
  by_cases h3 : s.state = 3
  · exact pushl_calls h hN (hb.bd (by omega)) (hb.sn' (by omega)) hp h3
  · have c2069 := h.cellT 4 (fun _ _ => rfl) 2069 rfl
    have HX : Hid (s.push = s) := Lib.hid (by unfold TS.push; rw [if_neg h3])
    have H := Lib.hid h
    obtain ⟨st, hst⟩ : ∃ st, s.state = st := ⟨_, rfl⟩
    rw [hst] at c2069 h3
    have e3 : ((st : Int) == 3) = false := beq_eq_false_iff_ne.2 (by omega)
    have e3' : ((st : Int) != 3) = true := by simp; omega
    clear h hN hb hp hst
    go_enter Try.func76, Try.ntmps76
    go_wp2_with fail
    go_end0
    exact ⟨vp, rfl, by rw [HX.out]; exact H.out, Chg.refl _ _ _, After.refl _ _⟩
end
end Go.Proofs.Ytjhnnnklfhbebaa
namespace Go.Proofs.Ytjhnnnklfhbebaa
open Go.RowKit
set_option linter.unusedVariables false
set_option linter.unusedSimpArgs false
section
variable {N : Nat → Prop} {w : World} {k : Nat} {s : TS} {vp : Value}
theorem Did.after {w1 : World} {vp1 : Value} {s' : TS} {v : Value} {e : Ending} {w2 : World} (h : Did N w1 k vp1 s' v e w2) (hc : Chg k vp w w1) (ha : After w vp vp1) : Did N w k vp s' v e w2 := by
  obtain ⟨vp', e1, h1, h2, h3⟩ := h
  exact ⟨vp', e1, h1, hc.trans h2 ha, ha.trans h3 hc.size⟩
set_option maxRecDepth 100000 in
set_option maxHeartbeats 1000000 in
theorem again_calls (h : ConnIs N w k s vp) (hN : ∀ b, N b → b < w.heap.size) (hb : s.Ok) (hp : s.pack.length ≤ 700000) (h5 : s.state ≠ 5) :
    Calls Try.prog 97 #[.pointer (some ⟨k, 0, none⟩)] w (Did N w k vp s.again (.tuple #[])) := by
  have c6 := h.cellH 6 (by decide) (fun _ _ => rfl)
  have c7 := h.cellH 7 (by decide) (fun _ _ => rfl)
  have f7 := h.frozen 7
  have h1 := h.setH s.back 7 (by decide) (.int .u32 (s.num s.una : Int)) (fun _ _ => rfl) (fun _ _ => rfl) rfl rfl rfl rfl (fun e => ⟨e, rfl⟩)
  have hc1 : Chg k vp w (w.setCell ⟨k, 7, none⟩ (.int .u32 (s.num s.una : Int))) := Chg.grown (grown_setCell _ _ _ _) (.inl rfl)
  have hN1 : ∀ b, N b → b < (w.setCell ⟨k, 7, none⟩ (.int .u32 (s.num s.una : Int))).heap.size := fun b hb => Nat.lt_of_lt_of_le (hN b hb) hc1.size
  have H1 := Lib.hid h1
  have HC1 := Lib.hid hc1
  have HN1 := Lib.hid hN1
  have HOK := Lib.hid hb
  have hkl := h.lt.1
  clear h h1 hc1 hN hN1 hb
  go_enter Try.func97, Try.ntmps97
  go_upto_region 1 with fail
  refine name_world (fun W => ConnIs N W k s.back vp ∧ Chg k vp w W ∧ (∀ b, N b → b < W.heap.size)) ⟨H1.out, HC1.out, HN1.out⟩ ?_
  clear H1 HC1 HN1 c6 c7 f7
  rintro w1 ⟨h1, hc1, hN1⟩
  have c6 := h1.cellH 6 (by decide) (fun _ _ => rfl)
  rw [show s.back.num s.back.una = s.num s.una from rfl] at c6
  have c10 := h1.cellH 10 (by decide) (fun _ _ => rfl)
  rw [show s.back.wnd = s.wnd from rfl] at c10
  obtain ⟨A, c, c9, k1, k2, k3, k4⟩ := h1.cellO
  rw [show s.back.out = s.out from rfl] at c9 k1 k3
  obtain ⟨n, hn⟩ : ∃ n, s.out.length = n := ⟨_, rfl⟩
  rw [hn] at c9 k1
  obtain ⟨wd, hwd⟩ : ∃ wd, s.wnd = wd := ⟨_, rfl⟩
  rw [hwd] at c10
  have hA : s.again = if wd = 0 ∧ 0 < n then (s.back.emit 2 (s.num s.una) (s.out.take 1)).on 1 else s.back.push := by unfold TS.again; rw [hn, hwd]
  have HAG := Lib.hid hA
  have HP := Lib.hid (push_calls h1 hN1 HOK.out.back hp)
  have H1 := Lib.hid h1
  have HC1 := Lib.hid hc1
  have HN1 := Lib.hid hN1
  have HLN := Lib.hid hn
  clear h1 hc1 hN1 k4 hA hn hwd
  by_cases hw : wd = 0
  · subst hw
    by_cases h0 : 0 < n
    · have HX : Hid (s.again = (s.back.emit 2 (s.num s.una) (s.out.take 1)).on 1) := Lib.hid (by rw [HAG.out]; exact if_pos ⟨rfl, h0⟩)
      obtain ⟨b, p, rfl, _⟩ := k3.form (by rw [HLN.out]; exact h0)
      have hc1 : (1 : Int) ≤ (c : Int) := by omega
      have hc0 : ¬ c = 0 := by omega
      have H2 : Hid (ConnIs N w1.drew k s.back vp) := Lib.hid (H1.out.ext (Below.refl _ _).drew)
      have HC2 : Hid (Chg k vp w w1.drew) := Lib.hid HC1.out.drew
      have HB2 : Hid (∀ b, N b → b < w1.drew.heap.size) := Lib.hid HN1.out
      have HD2 : Hid (RB w1.drew (some ⟨b, p, none⟩) (s.out.take 1)) := Lib.hid ((k3.take 1).ext (Below.refl _ _).drew)
      have hdl : Hid ((s.out.take 1).length = 1) := Lib.hid (by rw [List.length_take, HLN.out]; omega)
      clear k3
      go_upto_region 2 with fail
      go_still_tail 12, (by kernel_rfl)
      change wpList _ _ _ _ _ w1.drew
      generalize w1.drew = w2 at H2 HC2 HB2 HD2 ⊢
      go_wp2_with fail
      refine (emit_calls w2 k s.back vp H2.out HB2.out HOK.out.inn (by show s.pack.length ≤ 1000000; omega) HOK.out.irs 2 (by omega) (s.num s.una) (m32_lt _) _ 1 c (s.out.take 1) hdl.out HD2.out (by omega)).mono ?_
      rintro e3 w3 ⟨vp3, rfl, h3, hc3, ha3⟩
      have HC3 : Hid (Chg k vp w w3) := Lib.hid (HC2.out.trans hc3 (After.refl _ _))
      have HA3 : Hid (After w vp vp3) := Lib.hid (ha3.earlier HC2.out.size)
      have HON := Lib.hid (on_calls h3 1 (by omega) (by have h := HOK.out.back.sn h5; exact h.2.1) (by have h := HOK.out.back.sn h5; have := HOK.out.out; have h3 := h.2.2; show s.top ≤ s.una + 100000; have h4 : s.top ≤ s.una + s.out.length + 1 := h3; omega))
      clear h3 hc3 ha3
      go_wp2_with fail
      refine HON.out.mono ?_
      rintro e4 w4 ⟨rfl, h4, hc4⟩
      have H4 := Lib.hid h4
      have HC4 := Lib.hid (HC3.out.trans hc4 HA3.out)
      clear h4 hc4
      go_wp2_with fail
      go_end0
      exact ⟨vp3, rfl, by rw [HX.out]; exact H4.out, HC4.out, HA3.out⟩
    · have HX : Hid (s.again = s.back.push) := Lib.hid (by rw [HAG.out]; exact if_neg (fun h => h0 h.2))
      obtain rfl : n = 0 := by omega
      go_wp2_with fail
      refine HP.out.mono ?_
      rintro e3 w3 ⟨vp3, rfl, h3, hc3, ha3⟩
      have H3 := Lib.hid h3
      have HC3 : Hid (Chg k vp w w3) := Lib.hid (HC1.out.trans hc3 (After.refl _ _))
      have HA3 : Hid (After w vp vp3) := Lib.hid (ha3.earlier HC1.out.size)
      clear h3 hc3 ha3
      go_wp2_with fail
      go_end0
      exact ⟨vp3, rfl, by rw [HX.out]; exact H3.out, HC3.out, HA3.out⟩
  · have HX : Hid (s.again = s.back.push) := Lib.hid (by rw [HAG.out]; exact if_neg (fun h => hw h.1))
    have e0 : (wd == 0) = false := beq_eq_false_iff_ne.2 hw
    go_wp2_with fail
    refine HP.out.mono ?_
    rintro e3 w3 ⟨vp3, rfl, h3, hc3, ha3⟩
    have H3 := Lib.hid h3
    have HC3 : Hid (Chg k vp w w3) := Lib.hid (HC1.out.trans hc3 (After.refl _ _))
    have HA3 : Hid (After w vp vp3) := Lib.hid (ha3.earlier HC1.out.size)
    clear h3 hc3 ha3
    go_wp2_with fail
    go_end0
    exact ⟨vp3, rfl, by rw [HX.out]; exact H3.out, HC3.out, HA3.out⟩
set_option maxRecDepth 100000 in
theorem late_calls (h : ConnIs N w k s vp) (hN : ∀ b, N b → b < w.heap.size) (hb : ({ s with timer := 0 } : TS).Ok) (hp : s.pack.length ≤ 700000) (hd : s.dead = false) :
    Calls Try.prog 74 #[.pointer (some ⟨k, 0, none⟩)] w (Did N w k vp s.late (.tuple #[])) := by
  obtain ⟨s1, hs1⟩ : ∃ s1 : TS, { s with timer := 0, tries := s.tries + 1 } = s1 := ⟨_, rfl⟩
  have c2070 := h.cellT 5 (fun _ _ => rfl) 2070 rfl
  have c2071 := h.cellT 6 (fun _ _ => rfl) 2071 rfl
  have f2070 := h.frozen 2070
  have f2071 := h.frozen 2071
  have h1 := h.setT { s with timer := 0 } 5 2070 rfl (.int .i64 0) (fun _ _ => rfl) (fun _ _ => rfl) rfl rfl rfl rfl (fun e => ⟨e, rfl⟩)
  have h2 := h1.setT { s with timer := 0, tries := s.tries + 1 } 6 2071 rfl (.int .i64 ((s.tries + 1 : Nat) : Int)) (fun _ _ => rfl) (fun _ _ => rfl) rfl rfl rfl rfl (fun e => ⟨e, rfl⟩)
  rw [hs1] at h2
  have ht := (hb.tim hd).2.1
  rw [show ({ s with timer := 0 } : TS).tries = s.tries from rfl] at ht
  obtain ⟨t, het⟩ : ∃ t, s.tries = t := ⟨_, rfl⟩
  obtain ⟨t1, het1⟩ : ∃ t1, t + 1 = t1 := ⟨_, rfl⟩
  rw [het] at c2071 h2 ht
  rw [het1] at h2
  have hwt : IntKind.i64.wrap ((t : Int) + 1) = (t1 : Int) := by rw [IntWalk.i64_in _ (by omega)]; omega
  have HC : Hid (Chg k vp w ((w.setCell ⟨k, 2070, none⟩ (.int .i64 0)).setCell ⟨k, 2071, none⟩ (.int .i64 (t1 : Int)))) := Lib.hid ((Chg.grown (grown_setCell _ _ _ _) (.inl rfl)).trans (Chg.grown (grown_setCell _ _ _ _) (.inl rfl)) (After.refl _ _))
  have HNN : Hid (∀ b, N b → b < ((w.setCell ⟨k, 2070, none⟩ (.int .i64 0)).setCell ⟨k, 2071, none⟩ (.int .i64 (t1 : Int))).heap.size) := Lib.hid fun b hb => Nat.lt_of_lt_of_le (hN b hb) HC.out.size
  have H2 := Lib.hid h2
  have e1 : s1.tries = t1 := by rw [← hs1]; show s.tries + 1 = t1; omega
  have e2 : s1.state = s.state := by rw [← hs1]
  have e3 : s1.pack = s.pack := by rw [← hs1]
  have e4 : s1.dead = false := by rw [← hs1]; exact hd
  have HL : Hid (s.late = if 30 < s1.tries then s1.abort else if s1.state = 3 then s1.again else s1.syn) := Lib.hid (by rw [← hs1]; rfl)
  have hbd : s1.Bd := by rw [← hs1]; exact ⟨hb.inn, hb.out, by show s.pack.length ≤ 900000; omega, hb.irs, hb.iss⟩
  have HBD := Lib.hid hbd
  have HOK : Hid (t1 ≤ 30 → s1.Ok) := Lib.hid fun h30 => by rw [← hs1]; exact ⟨hb.inn, hb.out, hb.irs, hb.iss, hb.w0, hb.w1, hb.st, hb.sn, hb.early, hb.win, hb.fe, fun e => ⟨Nat.zero_le _, by show s.tries + 1 ≤ 30; omega, (hb.tim e).2.2⟩, hb.u1⟩
  have HE3 := Lib.hid e3
  clear h h1 h2 hN hb hs1 het e3 hbd
  go_enter Try.func74, Try.ntmps74
  go_upto_region 3 with fail
  refine name_world (fun W => ConnIs N W k s1 vp ∧ Chg k vp w W ∧ (∀ b, N b → b < W.heap.size)) ⟨H2.out, HC.out, HNN.out⟩ ?_
  clear H2 HC HNN c2070 c2071 f2070 f2071 hwt
  rintro w1 ⟨h1, hc1, hN1⟩
  have c2071 := h1.cellT 6 (fun _ _ => rfl) 2071 rfl
  rw [e1] at c2071
  have c2069 := h1.cellT 4 (fun _ _ => rfl) 2069 rfl
  have HC1 := Lib.hid hc1
  have H1 := Lib.hid h1
  have HN1 := Lib.hid hN1
  clear h1 hc1 hN1
  by_cases h30 : 30 < t1
  · have HX : Hid (s.late = s1.abort) := Lib.hid (by rw [HL.out, e1, if_pos h30])
    clear e1 e2 e4 HL het1
    go_wp2_with fail
    refine (abort_calls H1.out HN1.out HBD.out).mono ?_
    rintro e3 w3 ⟨vp3, rfl, h3, hc3, ha3⟩
    have H3 := Lib.hid h3
    have HC3 : Hid (Chg k vp w w3) := Lib.hid (HC1.out.trans hc3 (After.refl _ _))
    have HA3 : Hid (After w vp vp3) := Lib.hid (ha3.earlier HC1.out.size)
    clear h3 hc3 ha3
    go_wp2_with fail
    go_end0
    exact ⟨vp3, rfl, by rw [HX.out]; exact H3.out, HC3.out, HA3.out⟩
  · have h30' : t1 ≤ 30 := by omega
    obtain ⟨st, hst⟩ : ∃ st, s1.state = st := ⟨_, rfl⟩
    have HST := Lib.hid hst
    rw [hst] at c2069
    by_cases h3 : st = 3
    · have HX : Hid (s.late = s1.again) := Lib.hid (by rw [HL.out, e1, if_neg h30, HST.out, if_pos h3])
      subst h3
      clear e1 e2 e4 HL het1 hst
      go_wp2_with fail
      refine (again_calls H1.out HN1.out (HOK.out h30') (HE3.out ▸ hp) (by rw [HST.out]; decide)).mono ?_
      rintro e3 w3 ⟨vp3, rfl, h3, hc3, ha3⟩
      have H3 := Lib.hid h3
      have HC3 : Hid (Chg k vp w w3) := Lib.hid (HC1.out.trans hc3 (After.refl _ _))
      have HA3 : Hid (After w vp vp3) := Lib.hid (ha3.earlier HC1.out.size)
      clear h3 hc3 ha3
      go_wp2_with fail
      go_end0
      exact ⟨vp3, rfl, by rw [HX.out]; exact H3.out, HC3.out, HA3.out⟩
    · have HX : Hid (s.late = s1.syn) := Lib.hid (by rw [HL.out, e1, if_neg h30, HST.out, if_neg h3])
      have e3' : ((st : Int) == 3) = false := beq_eq_false_iff_ne.2 (by omega)
      clear e1 e2 e4 HL het1 hst
      go_wp2_with fail
      refine (syn_calls H1.out HN1.out HBD.out).mono ?_
      rintro e3 w3 ⟨vp3, rfl, h3, hc3, ha3⟩
      have H3 := Lib.hid h3
      have HC3 : Hid (Chg k vp w w3) := Lib.hid (HC1.out.trans hc3 (After.refl _ _))
      have HA3 : Hid (After w vp vp3) := Lib.hid (ha3.earlier HC1.out.size)
      clear h3 hc3 ha3
      go_wp2_with fail
      go_end0
      exact ⟨vp3, rfl, by rw [HX.out]; exact H3.out, HC3.out, HA3.out⟩
end
end Go.Proofs.Ytjhnnnklfhbebaa
namespace Go.Proofs.Ytjhnnnklfhbebaa
open Go.RowKit
set_option linter.unusedVariables false
set_option linter.unusedSimpArgs false
namespace TS
variable {s : TS}
/-- The endpoint behind the counting of a tick. -/
def ticked (s : TS) : TS := { s with idle := s.idle + 1, timer := if s.nxt = s.una ∧ s.out.length = 0 then 0 else s.timer + 1 }
theorem tick_eq (h : s.dead = false) : s.tick = if 128 ≤ s.ticked.idle then s.ticked.abort else if 4 ≤ s.ticked.timer then s.ticked.late else if s.ticked.state = 3 ∧ s.ticked.idle % 16 = 0 then s.ticked.emit 2 (s.ticked.num (s.ticked.una - 1)) [] else s.ticked := by
  unfold TS.tick
  rw [if_neg (by rw [h]; decide)]
  rfl
theorem num_inj (h1 : s.una ≤ s.nxt) (h2 : s.nxt ≤ s.una + 100000) : (s.num s.nxt = s.num s.una) ↔ s.nxt = s.una := by
  unfold TS.num m32
  omega
end TS
section
variable {N : Nat → Prop} {w : World} {k : Nat} {s : TS} {vp : Value}
set_option maxRecDepth 100000 in
set_option maxHeartbeats 1000000 in
/-- Behind the counting. -/
theorem tick_calls (h : ConnIs N w k s vp) (hN : ∀ b, N b → b < w.heap.size) (hb : s.Ok) (hp : s.pack.length ≤ 700000) :
    Calls Try.prog 28 #[.pointer (some ⟨k, 0, none⟩)] w (Did N w k vp s.tick (.tuple #[])) := by
  have HM := Lib.hid (made_calls w k s vp h)
  have c2069 := h.cellT 4 (fun _ _ => rfl) 2069 rfl
  have H := Lib.hid h
  cases hd : s.dead with
  | true =>
    have HX : Hid (s.tick = s) := Lib.hid (by unfold TS.tick; rw [if_pos hd])
    have hs : s.state = 0 ∨ s.state = 4 ∨ s.state = 5 := of_decide_eq_true hd
    obtain ⟨st, hst⟩ : ∃ st, s.state = st := ⟨_, rfl⟩
    rw [hst] at c2069 HM hs
    clear h hN hb hp hd hst
    rcases hs with rfl | rfl | rfl
    all_goals
      go_enter Try.func28, Try.ntmps28
      go_wp2_with fail
      refine HM.out.mono ?_
      rintro e w1 ⟨rfl, rfl⟩
      go_wp2_with fail
      go_end0
      exact ⟨vp, rfl, by rw [HX.out]; exact H.out, Chg.refl _ _ _, After.refl _ _⟩
  | false =>
    have hs : ¬ (s.state = 0 ∨ s.state = 4 ∨ s.state = 5) := of_decide_eq_false hd
    have h5 : s.state ≠ 5 := fun e => hs (.inr (.inr e))
    have hsn := hb.sn h5
    have hti := hb.tim hd
    have hout := hb.out
    have hnum := TS.num_inj (s := s) hsn.1 (by omega)
    have HTE := Lib.hid (TS.tick_eq hd)
    have HOK := Lib.hid hb
    have HD := Lib.hid hd
    have HSN := Lib.hid hsn
    obtain ⟨t, ht⟩ : ∃ t, s.ticked = t := ⟨_, rfl⟩
    have c2072 := h.cellT 7 (fun _ _ => rfl) 2072 rfl
    have c2070 := h.cellT 5 (fun _ _ => rfl) 2070 rfl
    have c6 := h.cellH 6 (by decide) (fun _ _ => rfl)
    have c7 := h.cellH 7 (by decide) (fun _ _ => rfl)
    obtain ⟨A, c, c9, k1, k2, k3, k4⟩ := h.cellO
    have f2070 := h.frozen 2070
    have f2072 := h.frozen 2072
    have h1 := h.setT { s with idle := s.idle + 1 } 7 2072 rfl (.int .i64 ((s.idle + 1 : Nat) : Int)) (fun _ _ => rfl) (fun _ _ => rfl) rfl rfl rfl rfl (fun e => ⟨e, rfl⟩)
    have HC1 : Hid (Chg k vp w (w.setCell ⟨k, 2072, none⟩ (.int .i64 ((s.idle + 1 : Nat) : Int)))) := Lib.hid (Chg.grown (grown_setCell _ _ _ _) (.inl rfl))
    have HCS : Hid (∀ (W : World) (v : Value), Chg k vp w W → Chg k vp w (W.setCell ⟨k, 2070, none⟩ v)) := Lib.hid fun W v hW => hW.trans (Chg.grown (grown_setCell _ _ _ _) (.inl rfl)) (After.refl _ _)
    have H1 := Lib.hid h1
    have hkl := h.lt.1
    have HNN := Lib.hid hN
    have et1 : t.idle = s.idle + 1 := by rw [← ht]; rfl
    have et2 : t.state = s.state := by rw [← ht]; rfl
    have et3 : t.timer = if s.nxt = s.una ∧ s.out.length = 0 then 0 else s.timer + 1 := by rw [← ht]; rfl
    have HT := Lib.hid ht
    rw [ht] at HTE
    obtain ⟨i, hi⟩ : ∃ i, s.idle = i := ⟨_, rfl⟩
    obtain ⟨i1, hi1⟩ : ∃ i1, i + 1 = i1 := ⟨_, rfl⟩
    obtain ⟨tm, htm⟩ : ∃ tm, s.timer = tm := ⟨_, rfl⟩
    obtain ⟨tm1, htm1⟩ : ∃ tm1, tm + 1 = tm1 := ⟨_, rfl⟩
    obtain ⟨n, hn⟩ : ∃ n, s.out.length = n := ⟨_, rfl⟩
    have HTS : Hid (∀ W : World, ConnIs N W k { s with idle := i1 } vp → ConnIs N (W.setCell ⟨k, 2070, none⟩ (.int .i64 ((if s.nxt = s.una ∧ n = 0 then 0 else tm1 : Nat) : Int))) k t vp) := Lib.hid fun W hW => by
      subst hn htm1 htm hi1 hi
      rw [← ht]
      exact hW.setT s.ticked 5 2070 rfl (.int .i64 ((if s.nxt = s.una ∧ s.out.length = 0 then 0 else s.timer + 1 : Nat) : Int)) (fun _ _ => rfl) (fun _ _ => rfl) rfl rfl rfl rfl (fun e => ⟨e, rfl⟩)
    obtain ⟨st, hst⟩ : ∃ st, s.state = st := ⟨_, rfl⟩
    have hi3 := hti.2.2
    have ht3 := hti.1
    rw [hi] at c2072 H1 HC1 hi3 et1
    rw [hi1] at H1 HC1 et1
    rw [htm] at c2070 ht3 et3
    rw [htm1] at et3
    rw [hn] at c9 et3 k1
    rw [hst] at c2069 hs HM et2
    have hwi : IntKind.i64.wrap ((i : Int) + 1) = (i1 : Int) := by rw [IntWalk.i64_in _ (by omega)]; omega
    have hwt : IntKind.i64.wrap ((tm : Int) + 1) = (tm1 : Int) := by rw [IntWalk.i64_in _ (by omega)]; omega
    have d0 : decide (st ≠ 0) = true := decide_eq_true (fun e => hs (.inl e))
    rw [d0] at HM
    have e4 : ((st : Int) == 4) = false := beq_eq_false_iff_ne.2 (by omega)
    have e5 : ((st : Int) == 5) = false := beq_eq_false_iff_ne.2 (by omega)
    have HE1 := Lib.hid et1
    have HE2 := Lib.hid et2
    have HE3 := Lib.hid et3
    have HNU := Lib.hid hnum
    have HP := Lib.hid hp
    have h128 : i1 ≤ 128 := by omega
    have ht14 : tm1 ≤ 4 := by omega
    obtain ⟨a, ha⟩ : ∃ a, s.num s.nxt = a := ⟨_, rfl⟩
    obtain ⟨b, hb2⟩ : ∃ b, s.num s.una = b := ⟨_, rfl⟩
    rw [ha] at c7 HNU
    rw [hb2] at c6 HNU
    clear h h1 hN hb hp hd ht d0 hi hi1 htm htm1 hn hst hsn hti et1 et2 et3 hnum hi3 ht3 hs h5 hout ha hb2 k2 k3 k4
    go_enter Try.func28, Try.ntmps28
    go_wp2_with fail
    refine HM.out.mono ?_
    rintro e w1 ⟨rfl, rfl⟩
    go_upto_region 2 with fail
    refine name_world (fun W => ConnIs N W k { s with idle := i1 } vp ∧ Chg k vp w W) ⟨H1.out, HC1.out⟩ ?_
    clear H1 HC1 hwi
    rintro w1 ⟨h1, hc1⟩
    obtain ⟨D, hD⟩ : ∃ D, decide (s.nxt = s.una ∧ n = 0) = D := ⟨_, rfl⟩
    have HDD := Lib.hid hD
    have c6' := h1.cellH 6 (by decide) (fun _ _ => rfl)
    rw [show ({ s with idle := i1 } : TS).num s.una = s.num s.una from rfl] at c6'
    have HN1 : Hid (∀ b, N b → b < w1.heap.size) := Lib.hid fun b hb => Nat.lt_of_lt_of_le (HNN.out b hb) hc1.size
    have H1 := Lib.hid h1
    have HC1 := Lib.hid hc1
    obtain ⟨A2, c2, c9', k5, _⟩ := h1.cellO
    clear c6' c9'
    have c6 : w1.cell? ⟨k, 6, none⟩ = some (.int .u32 (b : Int)) := by
      have := h1.cellH 6 (by decide) (fun _ _ => rfl)
      rw [this]
      exact (H.out.cellH 6 (by decide) (fun _ _ => rfl)).symm.trans c6
    have c7 : w1.cell? ⟨k, 7, none⟩ = some (.int .u32 (a : Int)) := by
      have := h1.cellH 7 (by decide) (fun _ _ => rfl)
      rw [this]
      exact (H.out.cellH 7 (by decide) (fun _ _ => rfl)).symm.trans c7
    have hn9 : ∃ A c, w1.cell? ⟨k, 9, none⟩ = some (.slice A n c) := by
      obtain ⟨A2, c2, c9', k5, _⟩ := h1.cellO
      obtain ⟨A3, c3, c93, k53, _⟩ := H.out.cellO
      rw [c9] at c93
      injection c93 with e1
      injection e1 with _ e2 _
      exact ⟨A2, c2, by rw [c9']; congr 2; exact e2.symm⟩
    obtain ⟨A, c, c9⟩ := hn9
    have c2072 := h1.cellT 7 (fun _ _ => rfl) 2072 rfl
    have c2070 : w1.cell? ⟨k, 2070, none⟩ = some (.int .i64 (tm : Int)) := by
      have := h1.cellT 5 (fun _ _ => rfl) 2070 rfl
      rw [this]
      exact (H.out.cellT 5 (fun _ _ => rfl) 2070 rfl).symm.trans c2070
    have f2070 := h1.frozen 2070
    clear h1 hc1 hD k1 k5 f2072
    go_cut [45] from 26 to 45 (fun v wc => v = .bool D ∧ Below w1.heap.size w1 wc)
    case first =>
      by_cases hq : a = b
      · by_cases h0 : n = 0
        · have hDt : D = true := by rw [← HDD.out]; exact decide_eq_true ⟨HNU.out.1 hq, h0⟩
          have HDT := Lib.hid hDt
          clear hDt
          subst hq
          subst h0
          go_upto_region 2 with fail
          go_quiet (fail)
          go_wp2_with fail
          go_meet
          case rel => exact ⟨by rw [HDT.out], ext_drewN (Below.refl _ _) _⟩
        · have hDt : D = false := by rw [← HDD.out]; exact decide_eq_false (fun h => h0 h.2)
          have HDT := Lib.hid hDt
          have en : ((n : Int) == 0) = false := beq_eq_false_iff_ne.2 (by omega)
          clear hDt
          subst hq
          go_upto_region 2 with fail
          go_quiet (fail)
          go_wp2_with fail
          go_meet
          case rel => exact ⟨by rw [HDT.out], ext_drewN (Below.refl _ _) _⟩
      · have hDt : D = false := by rw [← HDD.out]; exact decide_eq_false (fun h => hq (HNU.out.2 h.1))
        have HDT := Lib.hid hDt
        have eab : ((a : Int) == (b : Int)) = false := beq_eq_false_iff_ne.2 (by omega)
        clear hDt
        go_upto_region 2 with fail
        go_quiet (fail)
        go_wp2_with fail
        go_meet
        case rel => exact ⟨by rw [HDT.out], ext_drewN (Below.refl _ _) _⟩
    case rest =>
      obtain ⟨rfl, hbw⟩ := hcut
      have H1' : Hid (ConnIs N wc k { s with idle := i1 } vp) := Lib.hid (H1.out.ext hbw)
      have HC1' : Hid (Chg k vp w wc) := Lib.hid (HC1.out.trans (Chg.below hbw) (After.refl _ _))
      have c2070 := (hbw.cell (World.block_lt_of_cell? _ _ c2070)).trans c2070
      have f2070 := H1'.out.frozen 2070
      clear H1 HC1 hbw HN1 c9 c6 c7 c2072
      obtain ⟨w2, rfl⟩ : ∃ w2, w2 = wc := ⟨_, rfl⟩
      go_upto_if 45 with fail
      go_cut [55] from 45 to 55 (fun _ wc => Hid (ConnIs N wc k t vp ∧ Chg k vp w wc))
      case first =>
        cases D with
        | true =>
          go_wp2_with fail
          go_meet
          case rel =>
            have h := HTS.out _ H1'.out
            have hq : s.nxt = s.una ∧ n = 0 := of_decide_eq_true HDD.out
            rw [if_pos hq] at h
            exact Lib.hid ⟨h, HCS.out _ _ HC1'.out⟩
        | false =>
          go_wp2_with fail
          go_meet
          case rel =>
            have h := HTS.out _ H1'.out
            have hq : ¬ (s.nxt = s.una ∧ n = 0) := of_decide_eq_false HDD.out
            rw [if_neg hq] at h
            exact Lib.hid ⟨h, HCS.out _ _ HC1'.out⟩
      case rest =>
        obtain ⟨h2, hc2⟩ := hcut.out
        have H2 := Lib.hid h2
        have HC2 := Lib.hid hc2
        have HN2 : Hid (∀ b, N b → b < wc.heap.size) := Lib.hid fun b hb => Nat.lt_of_lt_of_le (HNN.out b hb) hc2.size
        have c2072 := h2.cellT 7 (fun _ _ => rfl) 2072 rfl
        have c2070 := h2.cellT 5 (fun _ _ => rfl) 2070 rfl
        have c2069 := h2.cellT 4 (fun _ _ => rfl) 2069 rfl
        have c6 := h2.cellH 6 (by decide) (fun _ _ => rfl)
        rw [HE1.out] at c2072
        rw [HE2.out] at c2069
        obtain ⟨tt, htt⟩ : ∃ tt, t.timer = tt := ⟨_, rfl⟩
        have HTT := Lib.hid htt
        rw [htt] at c2070
        have HBD : Hid t.Bd := Lib.hid (by rw [← HT.out]; exact ⟨HOK.out.inn, HOK.out.out, by show s.pack.length ≤ 900000; have := HP.out; omega, HOK.out.irs, HOK.out.iss⟩)
        have HPT : Hid (t.pack.length ≤ 700000) := Lib.hid (by rw [← HT.out]; exact HP.out)
        have HLT : Hid (i1 ≤ 127 → ({ t with timer := 0 } : TS).Ok) := Lib.hid fun h127 => by
          rw [← HT.out]
          have hb := HOK.out
          exact ⟨hb.inn, hb.out, hb.irs, hb.iss, hb.w0, hb.w1, hb.st, hb.sn, hb.early, hb.win, hb.fe, fun e => ⟨Nat.zero_le _, (hb.tim HD.out).2.1, by have := HE1.out; rw [← HT.out] at this; show s.idle + 1 ≤ 127; have h2 : s.idle + 1 = i1 := this; omega⟩, hb.u1⟩
        have HDT : Hid (t.dead = false) := Lib.hid (by rw [← HT.out]; exact HD.out)
        clear h2 hc2 hcut htt hwt
        by_cases h128' : 128 ≤ i1
        · have HX : Hid (s.tick = t.abort) := Lib.hid (by rw [HTE.out, HE1.out, if_pos h128'])
          go_wp2_with fail
          refine (abort_calls H2.out HN2.out HBD.out).mono ?_
          rintro e3 w3 ⟨vp3, rfl, h3, hc3, ha3⟩
          have H3 := Lib.hid h3
          have HC3 : Hid (Chg k vp w w3) := Lib.hid (HC2.out.trans hc3 (After.refl _ _))
          have HA3 : Hid (After w vp vp3) := Lib.hid (ha3.earlier HC2.out.size)
          clear h3 hc3 ha3
          go_wp2_with fail
          go_end0
          exact ⟨vp3, rfl, by rw [HX.out]; exact H3.out, HC3.out, HA3.out⟩
        · have HX1 : Hid (s.tick = if 4 ≤ tt then t.late else if st = 3 ∧ i1 % 16 = 0 then t.emit 2 (t.num (t.una - 1)) [] else t) := Lib.hid (by rw [HTE.out, HE1.out, if_neg h128', HTT.out, HE2.out])
          by_cases h4 : 4 ≤ tt
          · have HX : Hid (s.tick = t.late) := Lib.hid (by rw [HX1.out, if_pos h4])
            go_wp2_with fail
            refine (late_calls H2.out HN2.out (HLT.out (by omega)) HPT.out HDT.out).mono ?_
            rintro e3 w3 ⟨vp3, rfl, h3, hc3, ha3⟩
            have H3 := Lib.hid h3
            have HC3 : Hid (Chg k vp w w3) := Lib.hid (HC2.out.trans hc3 (After.refl _ _))
            have HA3 : Hid (After w vp vp3) := Lib.hid (ha3.earlier HC2.out.size)
            clear h3 hc3 ha3
            go_wp2_with fail
            go_end0
            exact ⟨vp3, rfl, by rw [HX.out]; exact H3.out, HC3.out, HA3.out⟩
          · have HX2 : Hid (s.tick = if st = 3 ∧ i1 % 16 = 0 then t.emit 2 (t.num (t.una - 1)) [] else t) := Lib.hid (by rw [HX1.out, if_neg h4])
            by_cases h3 : st = 3
            · subst h3
              by_cases h16 : i1 % 16 = 0
              · have HX : Hid (s.tick = t.emit 2 (t.num (t.una - 1)) []) := Lib.hid (by rw [HX2.out, if_pos ⟨rfl, h16⟩])
                have hsub : ((t.num t.una : Int) - 1) % 4294967296 = ((t.num (t.una - 1) : Nat) : Int) := by
                  have h0 := HOK.out.u1 (by have := HE2.out; rw [← HT.out] at this; exact this)
                  have h1 : t.una = s.una := by rw [← HT.out]; rfl
                  unfold TS.num m32
                  omega
                have HEM := Lib.hid (emit_calls _ k t vp H2.out HN2.out HBD.out.inn (by have := HPT.out; omega) HBD.out.irs 2 (by omega) (t.num (t.una - 1)) (m32_lt _) none 0 0 [] rfl (RB.nil _ _) (by omega))
                rw [← hsub] at HEM
                have HSB := Lib.hid hsub
                clear hsub
                go_wp2_with fail
                refine HEM.out.mono ?_
                rintro e3 w3 ⟨vp3, rfl, h3, hc3, ha3⟩
                have H3 := Lib.hid h3
                have HC3 : Hid (Chg k vp w w3) := Lib.hid (HC2.out.trans hc3 (After.refl _ _))
                have HA3 : Hid (After w vp vp3) := Lib.hid (ha3.earlier HC2.out.size)
                clear h3 hc3 ha3
                go_wp2_with fail
                go_end0
                exact ⟨vp3, rfl, by rw [HX.out]; exact H3.out, HC3.out, HA3.out⟩
              · have HX : Hid (s.tick = t) := Lib.hid (by rw [HX2.out, if_neg (fun h => h16 h.2)])
                have e16 : (((i1 % 16 : Nat) : Int) == 0) = false := beq_eq_false_iff_ne.2 (by omega)
                go_wp2_with fail
                go_end0
                exact ⟨vp, rfl, by rw [HX.out]; exact H2.out, HC2.out, After.refl _ _⟩
            · have HX : Hid (s.tick = t) := Lib.hid (by rw [HX2.out, if_neg (fun h => h3 h.1)])
              have e3' : ((st : Int) == 3) = false := beq_eq_false_iff_ne.2 (by omega)
              go_wp2_with fail
              go_end0
              exact ⟨vp, rfl, by rw [HX.out]; exact H2.out, HC2.out, After.refl _ _⟩
end
end Go.Proofs.Ytjhnnnklfhbebaa
