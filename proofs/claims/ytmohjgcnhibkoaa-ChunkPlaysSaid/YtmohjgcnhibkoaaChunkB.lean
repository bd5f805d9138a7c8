/- chunk: Write: the walk. -/
import Derived.Test.YtmohjgcnhibkoaaChunkA
namespace Go.Proofs.Ytmohjgcnhibkoaa
open Go.RowKit
set_option linter.unusedVariables false

theorem infoS : (Try.prog.info? 23).map (fun i => (i.zero, i.size, i.bytes)) = some (some (.slice none 0 0), 1, 24) := by kernel_rfl
theorem RB.lit1 (w : World) (e : TypeId) (x : UInt8) : RB (w.alloc (.cells #[.int .u8 (x.toNat : Int)] e)) (some ⟨w.heap.size, 0, none⟩) [x] := fun i hi => by
  obtain rfl : i = 0 := by simpa using hi
  refine ⟨_, _, rfl, ?_⟩
  exact (BK.new w e [.int .u8 (x.toNat : Int)]).cell (i := 0) rfl
/-- A list of slices in memory of its own, each in memory of its own, from D on, and apart from what v holds. -/
def OutIs (D : Nat) (w : World) (vo v : Value) (ls : List (List UInt8)) : Prop :=
  ∃ vs : List Value, w.ownsRow D 23 1 vo ls.length vs ∧ vs.length = ls.length ∧ ∀ i u, vs[i]? = some u → OwnB D 5 w u (ls.getD i []) ∧ (u.ownBlock = none ∨ u.ownBlock ≠ v.ownBlock)
section
variable {D B : Nat} {w w' : World} {vo v v' : Value} {ls : List (List UInt8)}
theorem OutIs.nil (D : Nat) (w : World) (v : Value) : OutIs D w (.slice none 0 0) v [] := ⟨[], World.ownsRow_nil _ _ _ _, rfl, fun i u h => by simp at h⟩
theorem OutIs.kept {row : Option Nat} (h : OutIs D w vo v ls) (e : w.grownBy w' row) (h1 : vo.ownBlock = none ∨ vo.ownBlock ≠ row) (h2 : ∀ u : Value, (∃ i, i < ls.length ∧ OwnB D 5 w u (ls.getD i [])) → (u.ownBlock = none ∨ u.ownBlock ≠ v.ownBlock) → u.ownBlock = none ∨ u.ownBlock ≠ row) : OutIs D w' vo v ls := by
  obtain ⟨vs, a, b, c⟩ := h
  refine ⟨vs, a.kept e h1, b, fun i u hu => ?_⟩
  obtain ⟨c1, c2⟩ := c i u hu
  have hi : i < ls.length := by rw [← b]; exact (List.getElem?_eq_some_iff.1 hu).1
  exact ⟨c1.other e (h2 u ⟨i, hi, c1⟩ c2), c2⟩
/-- A block of another kind is written. -/
theorem OutIs.bk (h : OutIs D w vo v ls) {k t : Nat} {cs : List Value} (hk : BK w k t cs) (e : w.grownBy w' (some k)) (n1 : 23 ≠ t) (n2 : 5 ≠ t) : OutIs D w' vo v ls := by
  have hc := h
  obtain ⟨vs, a, b, c⟩ := hc
  exact h.kept e (.inr (own_ne_bk a hk n1)) fun u ⟨i, hi, ho⟩ _ => .inr (own_ne_bk ho hk n2)
/-- The row that v holds is written. -/
theorem OutIs.row (h : OutIs D w vo v ls) {l : List UInt8} (hv : OwnB B 5 w v l) (e : w.grownBy w' v.ownBlock) : OutIs D w' vo v ls := by
  have hc := h
  obtain ⟨vs, a, b, c⟩ := hc
  exact h.kept e (own_ne_own a hv (by decide)) fun u _ k => k
theorem OutIs.ext (h : OutIs D w vo v ls) (e : Below w.heap.size w w') : OutIs D w' vo v ls :=
  h.kept (grown_of_below e none) (by cases vo.ownBlock <;> simp) fun u _ _ => by cases u.ownBlock <;> simp
/-- Another v: new memory, or the same. -/
theorem OutIs.swap (h : OutIs D w vo v ls) (hb : v'.ownBlock = v.ownBlock ∨ v'.ownBlock = none ∨ ∃ x, v'.ownBlock = some x ∧ w.heap.size ≤ x) : OutIs D w vo v' ls := by
  obtain ⟨vs, a, b, c⟩ := h
  refine ⟨vs, a, b, fun i u hu => ?_⟩
  obtain ⟨c1, c2⟩ := c i u hu
  refine ⟨c1, ?_⟩
  rcases hb with k | k | ⟨x, k, hx⟩
  · rw [k]; exact c2
  · rw [k]; cases u.ownBlock <;> simp
  · rw [k]
    cases hu2 : u.ownBlock with
    | none => exact .inl rfl
    | some y => exact .inr fun e => by have := (c1.lt y hu2).2; have := Option.some.inj e; omega
/-- Behind an append onto what v holds. -/
theorem OutIs.grow (h : OutIs D w vo v ls) {l : List UInt8} (hv : OwnB B 5 w v l) (e : w.grownBy w' v.ownBlock) (hb : v'.ownBlock = v.ownBlock ∨ v'.ownBlock = some w.heap.size) : OutIs D w' vo v' ls := by
  obtain ⟨vs, a, b, c⟩ := h
  refine ⟨vs, a.kept e (own_ne_own a hv (by decide)), b, fun i u hu => ?_⟩
  obtain ⟨c1, c2⟩ := c i u hu
  refine ⟨c1.other e c2, ?_⟩
  rcases hb with k | k
  · rw [k]; exact c2
  · rw [k]
    cases hu2 : u.ownBlock with
    | none => exact .inl rfl
    | some y => exact .inr fun e => by have := (c1.lt y hu2).2; have := Option.some.inj e; omega
/-- Behind an append of one more. -/
theorem OutIs.push {u : Value} {l : List UInt8} {vs : List Value} (a : w.ownsRow D 23 1 vo ls.length vs) (b : vs.length = ls.length) (c : ∀ i u, vs[i]? = some u → OwnB D 5 w u (ls.getD i []) ∧ (u.ownBlock = none ∨ u.ownBlock ≠ v.ownBlock))
    (hu : OwnB D 5 w u l) (hn : u.ownBlock = none ∨ u.ownBlock ≠ v.ownBlock) {vo' : Value} (a' : w'.ownsRow D 23 1 vo' (ls.length + 1) (vs ++ [u])) (e : w.grownBy w' vo.ownBlock) : OutIs D w' vo' v (ls ++ [l]) := by
  refine ⟨vs ++ [u], by simpa using a', by simp [b], fun i x hx => ?_⟩
  by_cases hi : i < vs.length
  · rw [List.getElem?_append_left hi] at hx
    obtain ⟨c1, c2⟩ := c i x hx
    rw [List.getD_eq_getElem?_getD, List.getElem?_append_left (by omega), ← List.getD_eq_getElem?_getD]
    exact ⟨c1.other e (own_ne_own c1 a (by decide)), c2⟩
  · have hx2 := (List.getElem?_eq_some_iff.1 hx).1
    obtain rfl : i = vs.length := by simp at hx2; omega
    rw [List.getElem?_append_right (Nat.le_refl _), Nat.sub_self] at hx
    obtain rfl : u = x := by simpa using hx
    rw [b, List.getD_eq_getElem?_getD, List.getElem?_append_right (Nat.le_refl _), Nat.sub_self]
    exact ⟨hu.other e (own_ne_own hu a (by decide)), hn⟩
end
theorem write_nil (A : Option Addr) (n c : Nat) (w : World) : Calls Try.prog 16 #[.pointer none, .slice A n c] w fun e w' => e = .returned (.slice none 0 0) ∧ w = w' := by
  go_enter Try.func16, Try.ntmps16
  go_wp2_with fail
  refine (made_nil w).mono ?_
  rintro e w' ⟨rfl, rfl⟩
  go_wp2
  go_ret
  exact ⟨rfl, rfl⟩
theorem write_unmade (k : Nat) (A : Option Addr) (n c : Nat) (w : World) (h : w.cell? ⟨k, 2, none⟩ = some (.pointer none)) : Calls Try.prog 16 #[.pointer (some ⟨k, 0, none⟩), .slice A n c] w fun e w' => e = .returned (.slice none 0 0) ∧ w = w' := by
  go_enter Try.func16, Try.ntmps16
  go_wp2_with fail
  refine (made_unmade k w h).mono ?_
  rintro e w' ⟨rfl, rfl⟩
  go_wp2
  go_ret
  exact ⟨rfl, rfl⟩
theorem RV.lit1 (w : World) (e : TypeId) (u : Value) : RV (w.alloc (.cells #[u] e)) (some ⟨w.heap.size, 0, none⟩) [u] := fun j x hj => by
  have hj2 := (List.getElem?_eq_some_iff.1 hj).1
  obtain rfl : j = 0 := by simpa using hj2
  obtain rfl : u = x := by simpa using hj
  exact ⟨_, _, rfl, (BK.new w e [u]).cell (i := 0) rfl⟩
/-- What Write may change. -/
def own (k r : Nat) (v : Value) : List Nat := k :: r :: v.ownBlock.toList
theorem own_v {k r : Nat} {v : Value} {x : Nat} (h : v.ownBlock = some x) : x ∈ own k r v := by simp [own, h]

set_option maxRecDepth 100000 in
set_option maxHeartbeats 4000000 in
theorem write_calls {B : Nat} {w : World} {k r g q : Nat} (hq : bl q = 32) {v : Value} {P pend : List UInt8} (h : CutIs B w k r g q v (P ++ pend) pend) (hp : pend.length < 256) (hB : B ≤ w.heap.size)
    (A : Option Addr) (c : Nat) (l : List UInt8) (hr : RB w A l) (hA : 0 < l.length → ∀ b o, A = some ⟨b, o, none⟩ → b ∉ own k r v) (hl : l.length ≤ 100000) :
    Calls Try.prog 16 #[.pointer (some ⟨k, 0, none⟩), .slice A l.length c] w fun e w' => ∃ vo v', e = .returned vo ∧ OutIs w.heap.size w' vo v' (cutS q pend l).1 ∧ CutIs B w' k r g q v' (P ++ pend ++ l) (cutS q pend l).2 ∧ Chg w w' (own k r v) ∧
      (v'.ownBlock = v.ownBlock ∨ v'.ownBlock = none ∨ ∃ x, v'.ownBlock = some x ∧ w.heap.size ≤ x) := by
  have H := Lib.hid h
  have HQ := Lib.hid hq
  have HR := Lib.hid hr
  have HA := Lib.hid hA
  have HP := Lib.hid hp
  have c2 : w.cell? ⟨k, 2, none⟩ = some (.pointer (some ⟨g, 0, none⟩)) := h.c.cell rfl
  clear h hq hr hA hp
  go_enter Try.func16, Try.ntmps16
  go_wp2_with fail
  refine (made_calls k g w c2).mono ?_
  rintro e w' ⟨rfl, rfl⟩
  clear c2
  go_wp2_with fail
  go_loopw [5, 13] (fun vo i wr => ∃ (j : Nat) (v' : Value), j ≤ l.length ∧ i = .int .i64 j ∧ Hid (OutIs w.heap.size wr vo v' (cutS q pend (l.take j)).1) ∧ Hid (CutIs B wr k r g q v' (P ++ pend ++ l.take j) (cutS q pend (l.take j)).2) ∧ Hid (Chg w wr (own k r v)) ∧
      Hid (v'.ownBlock = v.ownBlock ∨ v'.ownBlock = none ∨ ∃ x, v'.ownBlock = some x ∧ w.heap.size ≤ x)) (fun _ i _ => l.length - (intOf i).toNat)
  case atStart => exact ⟨0, v, Nat.zero_le _, rfl, Lib.hid (OutIs.nil _ _ _), Lib.hid (by simpa [cutS] using H.out), Lib.hid (Chg.refl _ _), Lib.hid (.inl rfl)⟩
  case round =>
    obtain ⟨j, v1, hj, rfl, HO, HC, HG, HV⟩ := hrel
    by_cases hjl : j < l.length
    · have d1 : decide ((j : Int) < (l.length : Int)) = true := by simpa using hjl
      obtain ⟨b, o, rfl, hcell⟩ := (HG.out.rb HR.out HA.out) j hjl
      obtain ⟨x, _, hx, htk⟩ := gb_some l j hjl
      rw [hx] at hcell
      obtain ⟨outs, houts⟩ : ∃ s, (cutS q pend (l.take j)).1 = s := ⟨_, rfl⟩
      obtain ⟨pj, hpj⟩ : ∃ s, (cutS q pend (l.take j)).2 = s := ⟨_, rfl⟩
      have hlt := cutS_lt q pend (l.take j) HP.out
      have hcnt := cutS_count q pend (l.take j)
      rw [List.length_take] at hcnt
      have hstep : cutS q pend (l.take (j + 1)) = stepC q (outs, pj) x := by rw [htk, cutS_snoc, ← houts, ← hpj]
      have hjn := cutS_join q pend (l.take j)
      rw [houts] at HO hcnt hjn
      rw [hpj] at HC hlt hjn
      have HSTEP := Lib.hid hstep
      have HJN : Hid (P ++ pend ++ l.take j = P ++ outs.flatten ++ pj) := Lib.hid (by rw [List.append_assoc, ← hjn, List.append_assoc])
      have HTK : Hid (P ++ pend ++ l.take (j + 1) = P ++ pend ++ l.take j ++ [x]) := Lib.hid (by rw [htk, List.append_assoc, List.append_assoc, List.append_assoc])
      have hcn : outs.length ≤ 100000 := by omega
      clear hstep hjn htk hx houts hpj hcnt
      have c0 : wr.cell? ⟨k, 0, none⟩ = some v1 := HC.out.c.cell rfl
      have hsz := HG.out.size
      go_wp2_with (at_builtin; refine wpList_appB rfl _ _ 23 rfl B 5 Try.underlying23 infoB v1 pj rfl (HC.out.ext (ext_alloc wr _)).o _ _ _ [x] rfl rfl (RB.lit1 wr _ x) (by simp; omega) (by simp; omega) ?_)
      intro v2 w2 ho2 hg2 hb2
      obtain ⟨n2, hn2⟩ : ∃ n, (pj ++ [x]).length = n := ⟨_, rfl⟩
      have hn2l : n2 = pj.length + 1 := by rw [← hn2]; simp
      have hn256 : n2 ≤ 256 := by omega
      obtain ⟨A2, cap2, hv2, _, _, _⟩ := ho2.form
      rw [hn2] at hv2
      subst hv2
      have HN2 := Lib.hid hn2
      clear hn2 hn2l
      have hC1 := HC.out.ext (ext_alloc wr (.cells #[.int .u8 (x.toNat : Int)] 5))
      have hO1 := HO.out.ext (ext_alloc wr (.cells #[.int .u8 (x.toNat : Int)] 5))
      have hck : BK w2 k 39 (ccs v1 r g) := hC1.c.same (hg2.block k hC1.c.lt (Ne.symm hC1.vk))
      have hC2 := hC1.grew hg2 ho2
      have hO2 := (hO1.grow hC1.o hg2 (hb2.imp id fun a => by simpa using a)).bk hck (grown_setCell w2 k 0 (.slice A2 n2 cap2)) (by decide) (by decide)
      have hG2 : Chg w (w2.setCell ⟨k, 0, none⟩ (.slice A2 n2 cap2)) (own k r v) := ((HG.out.step (World.grownBy_alloc wr _ none) (fun _ e => by cases e)).step hg2 (fun y hy => by
        rcases HV.out with a | a | ⟨z, a, hz⟩
        · exact .inl (own_v (a.symm.trans hy))
        · rw [a] at hy; cases hy
        · rw [a] at hy; cases hy; exact .inr hz)).step (grown_setCell w2 k 0 (.slice A2 n2 cap2)) (fun y hy => by cases hy; exact .inl (by simp [own]))
      have hV2 : (Value.slice A2 n2 cap2).ownBlock = v.ownBlock ∨ (Value.slice A2 n2 cap2).ownBlock = none ∨ ∃ z, (Value.slice A2 n2 cap2).ownBlock = some z ∧ w.heap.size ≤ z := by
        rcases hb2 with a | a
        · rw [a]; exact HV.out
        · exact .inr (.inr ⟨_, a, by omega⟩)
      have c0 : w2.cell? ⟨k, 0, none⟩ = some v1 := hck.cell rfl
      have z0 : w2.frozen? ⟨k, 0, none⟩ = false := hck.frozen 0
      have HC2 := Lib.hid hC2
      have HO2 := Lib.hid hO2
      have HG2 := Lib.hid hG2
      have HV2 := Lib.hid hV2
      clear hC1 hO1 hck hC2 hO2 hG2 hV2 ho2 hg2 hb2 HC HO HG HV hcell
      go_upto_region 8 with fail
      refine name_world (fun w3 => CutIs B w3 k r g q (.slice A2 n2 cap2) (P ++ pend ++ l.take j) (pj ++ [x]) ∧ OutIs w.heap.size w3 u5 (.slice A2 n2 cap2) outs ∧ Chg w w3 (own k r v)) ⟨HC2.out, HO2.out, HG2.out⟩ ?_
      rintro w3 ⟨hC3, hO3, hG3⟩
      clear HC2 HO2 HG2 c0 z0
      have hd : Below w3.heap.size w3 w3.drew := (Below.refl _ _).drew
      have HC3 := Lib.hid (hC3.ext hd)
      have HO3 := Lib.hid (hO3.ext hd)
      have HG3 := Lib.hid (hG3.step (grown_of_below hd none) (fun _ e => by cases e))
      have hkr := hC3.kr
      have hgr := hC3.gr
      have c30 : w3.cell? ⟨k, 0, none⟩ = some (.slice A2 n2 cap2) := hC3.c.cell rfl
      have c31 : w3.cell? ⟨k, 1, none⟩ = some (.pointer (some ⟨r, 0, none⟩)) := hC3.c.cell rfl
      have hn2 := HN2.out
      obtain ⟨f, hf⟩ : ∃ f, prN q (wnd (P ++ pend ++ l.take j ++ [x])) = f := ⟨_, rfl⟩
      have hf31 := prN_lt HQ.out (wnd (P ++ pend ++ l.take j ++ [x]))
      rw [hf] at hf31
      have hf64 : f < 18446744073709551616 := Nat.lt_of_lt_of_le (bl_le.1 hf31) (by decide)
      have hends : (decide (256 ≤ n2) || (decide (32 ≤ n2) && decide (f % 64 = 63))) = endsN q (pj ++ [x]) := by
        unfold endsN
        rw [hn2]
        by_cases h32 : 32 ≤ n2
        · have e : wnd (P ++ pend ++ l.take j ++ [x]) = wnd (pj ++ [x]) := by
            rw [HJN.out, List.append_assoc]
            exact wnd_after _ _ (by rw [hn2]; omega)
          rw [← hf, e]
        · rw [decide_eq_false h32]; simp
      obtain ⟨E, hE⟩ : ∃ E, endsN q (pj ++ [x]) = E := ⟨_, rfl⟩
      rw [hE] at hends
      have HF := Lib.hid hf
      have HENDS := Lib.hid hends
      have HE := Lib.hid hE
      have hgk : g ≠ k := hC3.gk
      have kf : ∀ w4, w3.drew.grownBy w4 (some r) → w4.cell? ⟨k, 0, none⟩ = some (.slice A2 n2 cap2) := fun w4 hg4 => (HC3.out.c.same (hg4.block k HC3.out.c.lt (fun e => hkr (Option.some.inj e)))).cell rfl
      have KF := Lib.hid kf
      clear hC3 hO3 hG3 hd hn2 hf hf31 hends hE kf
      go_region_with (first
        | (go_at_call 31; refine (nextL_calls r g q HQ.out (P ++ pend ++ l.take j) x _ ?_ ?_ hgr).mono ?_; exact HC3.out.roll; exact HC3.out.tab; rintro e w4 ⟨rfl, hr4, ht4, hg4⟩; rw [HF.out]; have c40 := KF.out _ hg4; have HR4 := Lib.hid hr4; have HT4 := Lib.hid ht4; have HG4 := Lib.hid hg4; clear hr4 ht4 hg4)
        | (go_at_call 30; refine (ends_calls n2 f (by omega) hf64 _).mono ?_; rintro e w6 ⟨rfl, rfl⟩; rw [HENDS.out]))
      all_goals
        have HC4 : Hid (CutIs B w4 k r g q (.slice A2 n2 cap2) (P ++ pend ++ l.take (j + 1)) (pj ++ [x])) := Lib.hid ⟨HC3.out.c.same (HG4.out.block k HC3.out.c.lt (fun e => hkr (Option.some.inj e))), HC3.out.o.other HG4.out (.inr HC3.out.vr), by rw [HTK.out]; exact HR4.out, HT4.out⟩
        have HO4 : Hid (OutIs w.heap.size w4 u5 (.slice A2 n2 cap2) outs) := Lib.hid (by obtain ⟨cs, hr⟩ := HC3.out.rb; exact HO3.out.bk hr HG4.out (by decide) (by decide))
        have HG5 : Hid (Chg w w4 (own k r v)) := Lib.hid (HG3.out.step HG4.out (fun y hy => by cases hy; exact .inl (by simp [own])))
        clear HC3 HO3 HG3 HR4 HT4 HG4 KF c30 c31 c40
        cases E with
        | false =>
          have HS : Hid (cutS q pend (l.take (j + 1)) = (outs, pj ++ [x])) := Lib.hid (by rw [HSTEP.out]; unfold stepC; rw [if_neg (by rw [HE.out]; decide)])
          go_wp2
          exact ⟨⟨j + 1, .slice A2 n2 cap2, by omega, by go_num, Lib.hid (by rw [HS.out]; exact HO4.out), Lib.hid (by rw [HS.out]; exact HC4.out), HG5, HV2⟩, by simp [intOf]; omega⟩
        | true =>
          have HS : Hid (cutS q pend (l.take (j + 1)) = (outs ++ [pj ++ [x]], [])) := Lib.hid (by rw [HSTEP.out]; unfold stepC; rw [if_pos HE.out])
          go_wp2_with fail
          refine (flush_calls HC4.out (by rw [HN2.out]; exact hn256)).mono ?_
          rintro e w5 ⟨u, rfl, hu, hc5, hg5⟩
          have hO5 := (HO4.out.swap (v' := .slice none 0 0) (.inr (.inl rfl))).bk HC4.out.c hg5 (by decide) (by decide)
          have hu5 := hu.mono HG5.out.size
          obtain ⟨Au, cu, hvu, _, _, _⟩ := hu5.form
          rw [HN2.out] at hvu
          subst hvu
          have hg6 : Chg w w5 (own k r v) := HG5.out.step hg5 (fun y hy => by cases hy; exact .inl (by simp [own]))
          have hO6 := hO5.ext (ext_alloc w5 (.cells #[.slice Au n2 cu] 23))
          have hC6 := hc5.ext (ext_alloc w5 (.cells #[.slice Au n2 cu] 23))
          have hU6 := hu5.ext (ext_alloc w5 (.cells #[.slice Au n2 cu] 23))
          have hs6 := hg6.size
          obtain ⟨vs, a6, b6, c6⟩ := hO6
          have A6 := Lib.hid a6
          have B6 := Lib.hid b6
          have C6 := Lib.hid c6
          have HC6 := Lib.hid hC6
          have HU6 := Lib.hid hU6
          have HG6 := Lib.hid hg6
          clear a6 b6 c6 hC6 hU6 hg6 hO5 hu5 hu hc5 hg5 HC4 HO4 HG5
          go_wp2_with (at_builtin; refine wpList_app rfl _ _ 28 rfl w.heap.size 23 (.slice none 0 0) 24 Try.underlying28 infoS rfl (by decide) u5 outs.length vs rfl A6.out _ _ _ [.slice Au n2 cu] rfl rfl (RV.lit1 w5 _ _) (by simp [Value.oneCell']) (by omega) (by simp; omega) ?_)
          intro v7 w7 a7 hg7 hb7
          obtain ⟨cs6, hr6⟩ := HC6.out.rb
          have hC7 := HC6.out.kept hg7 (own_ne_bk A6.out HC6.out.c (by decide)) (own_ne_bk A6.out hr6 (by decide)) (own_ne_bk A6.out HC6.out.tab (by decide)) (.inl rfl)
          have hO7 := OutIs.push (v := .slice none 0 0) A6.out B6.out C6.out HU6.out (by cases Au <;> simp [Value.ownBlock]) a7 hg7
          have HC7 := Lib.hid hC7
          have HO7 := Lib.hid hO7
          have HG7 : Hid (Chg w w7 (own k r v)) := Lib.hid ((HG6.out.step (World.grownBy_alloc w5 _ none) (fun _ e => by cases e)).step hg7 (fun y hy => .inr (A6.out.lt y hy).1))
          clear hC7 hO7 a7 hg7 hb7 HC6 HU6 HG6 A6 B6 C6 hr6
          go_wp2
          exact ⟨⟨j + 1, .slice none 0 0, by omega, by go_num, Lib.hid (by rw [HS.out]; exact HO7.out), Lib.hid (by rw [HS.out]; exact HC7.out), HG7, Lib.hid (.inr (.inl rfl))⟩, by simp [intOf]; omega⟩
    · obtain rfl : j = l.length := by omega
      rw [List.take_length] at HO HC
      go_wp2
      go_ret
      exact ⟨_, v1, rfl, HO.out, HC.out, HG.out, HV.out⟩
end Go.Proofs.Ytmohjgcnhibkoaa
