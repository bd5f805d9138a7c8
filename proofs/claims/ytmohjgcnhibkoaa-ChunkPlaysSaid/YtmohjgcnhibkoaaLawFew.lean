/- The walks of the laws ChunkFew, ChunkWhole, ChunkSizes, ChunkNobody. -/
import Derived.Test.YtmohjgcnhibkoaaChunkC
import Derived.Test.YtmohjgcnhibkoaaConcat
import Derived.Test.YtmohjgcnhibkoaaBytesEq
namespace Go.Proofs.Ytmohjgcnhibkoaa
open Go.RowKit
set_option linter.unusedVariables false

/-! ### plain -/
theorem cut_sizes (q : Nat) (pend b : List UInt8) (h : pend.length < 256) : ∀ c ∈ (cutS q pend b).1, 32 ≤ c.length ∧ c.length ≤ 256 := by
  induction b using snoc_ind with
  | h0 => intro c hc; simp [cutS] at hc
  | h b x ih =>
    have hlt := cutS_lt q pend b h
    rw [cutS_snoc]
    unfold stepC
    split
    · rename_i he
      intro c hc
      rcases List.mem_append.1 hc with hc | hc
      · exact ih c hc
      · obtain rfl : c = (cutS q pend b).2 ++ [x] := by simpa using hc
        simp only [endsN, Bool.or_eq_true, Bool.and_eq_true, decide_eq_true_eq] at he
        have e : ((cutS q pend b).2 ++ [x]).length = (cutS q pend b).2.length + 1 := by simp
        rcases he with he | he <;> omega
    · exact ih
theorem flat_bounds : ∀ ls : List (List UInt8), (∀ c ∈ ls, 32 ≤ c.length ∧ c.length ≤ 256) → ls.length * 32 ≤ ls.flatten.length ∧ ls.flatten.length ≤ ls.length * 256
  | [], _ => by simp
  | c :: ls, h => by
    have h1 := h c List.mem_cons_self
    have h2 := flat_bounds ls fun d hd => h d (List.mem_cons_of_mem c hd)
    rw [List.flatten_cons, List.length_append, List.length_cons]
    omega
theorem allN_flat (q : Nat) (l : List UInt8) : (allN q l).flatten = l := by
  have h := cutS_join q [] l
  rw [List.nil_append] at h
  unfold allN
  rw [List.flatten_append]
  split
  · rename_i e
    rw [e, List.append_nil] at h
    simpa using h
  · simpa using h
theorem allN_few (q : Nat) (l : List UInt8) : (allN q l).length ≤ l.length / 32 + 1 ∧ (l.length + 255) / 256 ≤ (allN q l).length := by
  have h := cutS_join q [] l
  have hb := flat_bounds _ (cut_sizes q [] l (by simp))
  have hlt := cutS_lt q [] l (by simp)
  rw [List.nil_append] at h
  have hl : (cutS q [] l).1.flatten.length + (cutS q [] l).2.length = l.length := by rw [← List.length_append, h]
  unfold allN
  rw [List.length_append]
  split
  · rename_i e
    rw [e, List.length_nil] at hl
    rw [List.length_nil]
    omega
  · rw [List.length_singleton]
    omega
theorem catTo_flat (ls : List (List UInt8)) : ∀ k, k ≤ ls.length → catTo ls k = (ls.take k).flatten := by
  intro k
  induction k with
  | zero => intro _; rfl
  | succ k ih =>
    intro hk
    have hk' : k < ls.length := hk
    rw [catTo, ih (by omega), List.take_succ_eq_append_getElem hk', List.flatten_append, List.getD_eq_getElem?_getD, List.getElem?_eq_getElem hk']
    simp

/-! ### the walks -/
set_option maxRecDepth 8000 in
set_option maxHeartbeats 1000000 in
theorem few_walk (w : World) (p : Nat) (hp : p ≤ 18446744073709551615) (A : Option Addr) (c : Nat) (l : List UInt8) (h : RB w A l) (hc : l.length ≤ c) (hl : l.length ≤ 140737488351232) :
    Calls Try.prog 3 #[.int .u64 (p : Int), .slice A l.length c] w fun e w' => e = .returned (.bool true) ∧ Below w.heap.size w w' := by
  have HP := Lib.hid (U64.of hp)
  have H := Lib.hid h
  clear hp h
  by_cases hs : 8192 < l.length
  · go_enter Try.func3, Try.ntmps3
    go_wp2_with fail
    refine (awake_calls w).mono ?_
    rintro e w2 ⟨rfl, hb⟩
    have HB := Lib.hid hb
    clear hb
    go_wp2
    go_ret
    exact ⟨rfl, HB.out⟩
  · go_enter Try.func3, Try.ntmps3
    go_wp2_with fail
    refine (table_calls p HP.out w).mono ?_
    rintro e w1 ⟨g, rfl, ht, hg, hb⟩
    have hq := tabP_bl p
    generalize tabP p = q at *
    have HQ := Lib.hid hq
    have HT := Lib.hid ht
    have HB := Lib.hid hb
    have HR := Lib.hid (H.out.ext hb)
    have HOFF := Lib.hid (fun h0 => H.out.off hg h0)
    clear hq ht hb
    go_wp2_with fail
    refine (all_calls g q HQ.out w1 HT.out A c l HR.out HOFF.out (by omega)).mono ?_
    rintro e w2 ⟨vo, rfl, hO, ht2, hg2⟩
    obtain ⟨A2, c2, rfl, hc2, _⟩ := hO.rbb
    have hfew := allN_few q l
    generalize (allN q l).length = n at *
    have HB2 : Hid (Below w.heap.size w w2) := Lib.hid (below_grown HB.out hg2 HB.out.size hg)
    have f1 : (n : Int) ≤ (l.length : Int) / 32 + 1 := by omega
    have f2 : ((l.length : Int) + 256 - 1) / 256 ≤ (n : Int) := by omega
    clear hO ht2 hg2 hfew
    go_wp2_with fail
    refine (awake_calls w2).mono ?_
    rintro e w3 ⟨rfl, hb⟩
    have HB3 := Lib.hid (HB2.out.trans (hb.mono HB2.out.size))
    clear hb
    go_wp2
    go_ret
    exact ⟨rfl, HB3.out⟩

set_option maxRecDepth 8000 in
set_option maxHeartbeats 1000000 in
theorem whole_walk (w : World) (p : Nat) (hp : p ≤ 18446744073709551615) (A : Option Addr) (c : Nat) (l : List UInt8) (h : RB w A l) (hc : l.length ≤ c) (hl : l.length ≤ 140737488351232) :
    Calls Try.prog 8 #[.int .u64 (p : Int), .slice A l.length c] w fun e w' => e = .returned (.bool true) ∧ Below w.heap.size w w' := by
  have HP := Lib.hid (U64.of hp)
  have H := Lib.hid h
  clear hp h
  by_cases hs : 8192 < l.length
  · go_enter Try.func8, Try.ntmps8
    go_wp2_with fail
    refine (awake_calls w).mono ?_
    rintro e w2 ⟨rfl, hb⟩
    have HB := Lib.hid hb
    clear hb
    go_wp2
    go_ret
    exact ⟨rfl, HB.out⟩
  · go_enter Try.func8, Try.ntmps8
    go_wp2_with fail
    refine (table_calls p HP.out w).mono ?_
    rintro e w1 ⟨g, rfl, ht, hg, hb⟩
    have hq := tabP_bl p
    generalize tabP p = q at *
    have HQ := Lib.hid hq
    have HT := Lib.hid ht
    have HB := Lib.hid hb
    have HR := Lib.hid (H.out.ext hb)
    have HOFF := Lib.hid (fun h0 => H.out.off hg h0)
    clear hq ht hb
    go_wp2_with fail
    refine (all_calls g q HQ.out w1 HT.out A c l HR.out HOFF.out (by omega)).mono ?_
    rintro e w2 ⟨vo, rfl, hO, ht2, hg2⟩
    obtain ⟨A2, c2, rfl, hc2, hrbb⟩ := hO.rbb
    have hfew := (allN_few q l).1
    have hcat : catTo (allN q l) (allN q l).length = l := by rw [catTo_flat _ _ (Nat.le_refl _), List.take_length, allN_flat]
    have HCAT := Lib.hid hcat
    have HRBB := Lib.hid hrbb
    have HB2 : Hid (Below w.heap.size w w2) := Lib.hid (below_grown HB.out hg2 HB.out.size hg)
    have HR2 := Lib.hid (HR.out.grown hg2 HOFF.out)
    obtain ⟨ls, hls⟩ : ∃ ls, allN q l = ls := ⟨_, rfl⟩
    rw [hls] at HCAT HRBB hc2 hfew ⊢
    have hln : ls.length ≤ 1000 := by omega
    clear hO ht2 hg2 hfew hcat hrbb hls HOFF HR
    go_wp2_with fail
    refine (concat_calls A2 c2 ls w2 HRBB.out (by omega) (by rw [HCAT.out]; omega)).mono ?_
    rintro e w3 ⟨v, rfl, ho3, hb3⟩
    rw [HCAT.out] at ho3
    obtain ⟨A3, c3, rfl, hr3, _, _⟩ := ho3.form
    have HR3 := Lib.hid hr3
    have HRA := Lib.hid (HR2.out.ext hb3)
    have HB3 := Lib.hid (HB2.out.trans (hb3.mono HB2.out.size))
    clear ho3 hb3 hr3
    go_wp2_with fail
    refine (equal_calls A3 A c3 c l l w3 HR3.out HRA.out).mono ?_
    rintro e w4 ⟨rfl, rfl⟩
    rw [show (l == l) = true from by simp]
    go_wp2_with fail
    refine (awake_calls w3).mono ?_
    rintro e w4 ⟨rfl, hb⟩
    have HB4 := Lib.hid (HB3.out.trans (hb.mono HB3.out.size))
    clear hb
    go_wp2
    go_ret
    exact ⟨rfl, HB4.out⟩

theorem taken_le (ls : List (List UInt8)) (k : Nat) : (ls.take k).flatten.length ≤ ls.flatten.length := by
  have : ls.flatten = (ls.take k).flatten ++ (ls.drop k).flatten := by rw [← List.flatten_append, List.take_append_drop]
  rw [this, List.length_append]
  omega
theorem taken_step (ls : List (List UInt8)) (k : Nat) (h : k < ls.length) : (ls.take (k + 1)).flatten.length = (ls.take k).flatten.length + (ls.getD k []).length := by
  rw [List.take_succ_eq_append_getElem h, List.flatten_append, List.length_append, List.getD_eq_getElem?_getD, List.getElem?_eq_getElem h]
  simp
set_option maxRecDepth 8000 in
set_option maxHeartbeats 1000000 in
theorem sizes_walk (w : World) (p : Nat) (hp : p ≤ 18446744073709551615) (A : Option Addr) (c : Nat) (l : List UInt8) (h : RB w A l) (hc : l.length ≤ c) (hl : l.length ≤ 140737488351232) :
    Calls Try.prog 4 #[.int .u64 (p : Int), .slice A l.length c] w fun e w' => e = .returned (.bool true) ∧ Below w.heap.size w w' := by
  have HP := Lib.hid (U64.of hp)
  have H := Lib.hid h
  clear hp h
  by_cases hs : 8192 < l.length
  · go_enter Try.func4, Try.ntmps4
    go_wp2_with fail
    refine (awake_calls w).mono ?_
    rintro e w2 ⟨rfl, hb⟩
    have HB := Lib.hid hb
    clear hb
    go_wp2
    go_ret
    exact ⟨rfl, HB.out⟩
  · go_enter Try.func4, Try.ntmps4
    go_wp2_with fail
    refine (table_calls p HP.out w).mono ?_
    rintro e w1 ⟨g, rfl, ht, hg, hb⟩
    have hq := tabP_bl p
    generalize tabP p = q at *
    have HQ := Lib.hid hq
    have HT := Lib.hid ht
    have HB := Lib.hid hb
    have HR := Lib.hid (H.out.ext hb)
    have HOFF := Lib.hid (fun h0 => H.out.off hg h0)
    have hgl : g < w1.heap.size := HT.out.lt
    clear hq ht hb
    go_wp2_with fail
    refine (cnew_calls w.heap.size g q HQ.out w1 HT.out).mono ?_
    rintro e w2 ⟨k, r, rfl, hk, hr, hC, hG⟩
    have hRR := HR.out.grown hG HOFF.out
    have HB2 : Hid (Below w.heap.size w w2) := Lib.hid (below_grown HB.out hG HB.out.size hg)
    have hsz := HB.out.size
    have hsz2 := HB2.out.size
    have hAo : 0 < l.length → ∀ b o, A = some ⟨b, o, none⟩ → b ∉ own k r (.slice none 0 0) := fun h0 b o e => by
      obtain ⟨b', o', e', hc'⟩ := H.out 0 h0
      have hb : b' < w.heap.size := World.block_lt_of_cell? w _ hc'
      rw [e'] at e
      injection e with e
      injection e with e1 _ _
      rw [← e1]
      simp [own, Value.ownBlock]
      omega
    have HAO := Lib.hid hAo
    have HRR := Lib.hid hRR
    have HC := Lib.hid hC
    clear hG hRR hC hAo
    go_wp2_with fail
    refine (write_calls (P := []) HQ.out HC.out (by simp) hsz2 A c l HRR.out HAO.out (by omega)).mono ?_
    rintro e w3 ⟨vo, v1, rfl, hO3, hC3, hG3, _⟩
    obtain ⟨A3, c3, rfl, hc3, hrbb⟩ := hO3.rbb
    have hsizes := cut_sizes q [] l (by simp)
    have hjn := cutS_join q [] l
    have hlt := cutS_lt q [] l (by simp)
    have hcnt := cutS_count q [] l
    obtain ⟨outs, houts⟩ : ∃ s, (cutS q [] l).1 = s := ⟨_, rfl⟩
    obtain ⟨rest, hrest⟩ : ∃ s, (cutS q [] l).2 = s := ⟨_, rfl⟩
    rw [houts] at hrbb hsizes hjn hcnt hc3 ⊢
    rw [hrest] at hC3 hjn hlt
    rw [List.nil_append] at hjn
    have hlen : outs.flatten.length + rest.length = l.length := by rw [← List.length_append, hjn]
    have HRBB := Lib.hid hrbb
    have HSZ := Lib.hid hsizes
    have HC3 := Lib.hid hC3
    have HLEN := Lib.hid hlen
    have HB3 : Hid (Below w.heap.size w w3) := Lib.hid (HB2.out.trans (hG3.below hsz2 (fun x hx => by simp [own, Value.ownBlock] at hx; omega)))
    have hcn : outs.length ≤ 8192 := by omega
    clear hO3 hC3 hG3 hrbb hsizes hjn houts hrest hlen HAO HRR HC
    go_wp2_with fail
    go_loop [8, 26] (fun v i => ∃ j : Nat, j ≤ outs.length ∧ i = .int .i64 j ∧ v = .int .i64 ((outs.take j).flatten.length : Nat)) (fun _ i => outs.length - (intOf i).toNat)
    case atStart => exact ⟨0, Nat.zero_le _, rfl, rfl⟩
    case round =>
      obtain ⟨j, hj, rfl, rfl⟩ := hrel
      have hle := taken_le outs j
      by_cases hjl : j < outs.length
      · have d1 : decide ((j : Int) < (outs.length : Int)) = true := by simpa using hjl
        obtain ⟨b, o, A', c', rfl, hcell, _, _⟩ := HRBB.out j hjl
        have hmem : outs.getD j [] ∈ outs := by rw [List.getD_eq_getElem?_getD, List.getElem?_eq_getElem hjl]; exact List.getElem_mem hjl
        obtain ⟨s1, s2⟩ := HSZ.out _ hmem
        have hst := taken_step outs j hjl
        have hle2 := taken_le outs (j + 1)
        have hl8 := HLEN.out
        obtain ⟨m, hm⟩ : ∃ m, (outs.getD j []).length = m := ⟨_, rfl⟩
        obtain ⟨a, ha⟩ : ∃ a, (outs.take j).flatten.length = a := ⟨_, rfl⟩
        rw [hm] at hcell s1 s2 hst
        rw [ha] at hst
        rw [ha]
        have ha2 : a + m ≤ 8192 := by omega
        have HST := Lib.hid hst
        clear hmem hst hle hle2 hl8 hm ha
        go_wp2
        exact ⟨⟨j + 1, by omega, by go_num, by rw [HST.out]; go_num⟩, by simp [intOf]; omega⟩
      · obtain rfl : j = outs.length := by omega
        rw [List.take_length]
        have hl8 := HLEN.out
        obtain ⟨a, ha⟩ : ∃ a, outs.flatten.length = a := ⟨_, rfl⟩
        obtain ⟨m, hm⟩ : ∃ m, rest.length = m := ⟨_, rfl⟩
        rw [ha, hm] at hl8
        rw [hm] at hlt
        rw [ha]
        have HM := Lib.hid hm
        have e1 : (l.length : Int) - (a : Int) = (m : Int) := by omega
        clear hle ha hm
        go_wp2_with fail
        refine (pending_calls HC3.out).mono ?_
        rintro e w4 ⟨rfl, rfl⟩
        rw [HM.out]
        go_wp2_with fail
        refine (pending_calls HC3.out).mono ?_
        rintro e w4 ⟨rfl, rfl⟩
        rw [HM.out]
        go_wp2_with fail
        refine (awake_calls w3).mono ?_
        rintro e w4 ⟨rfl, hb⟩
        have HB4 := Lib.hid (HB3.out.trans (hb.mono HB3.out.size))
        clear hb
        go_wp2
        go_ret
        exact ⟨rfl, HB4.out⟩

def cutter0 : List Value := [.slice none 0 0, .pointer none, .pointer none]
set_option maxRecDepth 8000 in
set_option maxHeartbeats 1600000 in
theorem cnobody_walk (w : World) (A : Option Addr) (c : Nat) (l : List UInt8) (h : RB w A l) (hc : l.length ≤ c) (hl : l.length ≤ 140737488351232) :
    Calls Try.prog 5 #[.slice A l.length c] w fun e w' => e = .returned (.bool true) ∧ Below w.heap.size w w' := by
  clear h
  by_cases hs : 8192 < l.length
  · go_enter Try.func5, Try.ntmps5
    go_wp2_with fail
    refine (awake_calls w).mono ?_
    rintro e w2 ⟨rfl, hb⟩
    have HB := Lib.hid hb
    clear hb
    go_wp2
    go_ret
    exact ⟨rfl, HB.out⟩
  · go_enter Try.func5, Try.ntmps5
    go_wp2_with fail
    refine name_world (fun w2 => BK w2 w.heap.size 39 cutter0 ∧ BK w2 (w.heap.size + 1) 31 [.pointer none, .pointer (some ⟨w.heap.size, 0, none⟩)] ∧ Below w.heap.size w w2)
      ⟨heap_old (heap_new w _ rfl), heap_new (w.alloc _) _ (by simp), (ext_alloc w _).alloc (by simp) _⟩ ?_
    rintro w2 ⟨hz2, hz3, hb2⟩
    have HZ2 := Lib.hid hz2
    have HZ3 := Lib.hid hz3
    have HB2 := Lib.hid hb2
    clear hz2 hz3 hb2
    go_loop [13] (fun i => ∃ k : Nat, k ≤ 2 ∧ i = .int .i64 k) (fun i => 2 - (intOf i).toNat)
    case atStart => exact ⟨0, Nat.zero_le _, rfl⟩
    case round =>
      obtain ⟨k, hk, rfl⟩ := hrel
      have c0 := HZ3.out.cell (i := 0) rfl
      have c1 := HZ3.out.cell (i := 1) rfl
      have c2 : w2.cell? ⟨w.heap.size, 2, none⟩ = some (.pointer none) := HZ2.out.cell (i := 2) rfl
      by_cases h2 : k < 2
      · by_cases h0 : k = 0
        · subst h0
          clear c1 c2
          go_wp2_with fail
          refine (write_nil _ _ _ _).mono ?_
          rintro e w3 ⟨rfl, rfl⟩
          go_wp2_with fail
          refine (pending_nil _).mono ?_
          rintro e w3 ⟨rfl, rfl⟩
          go_wp2_with fail
          refine (flush_nil _).mono ?_
          rintro e w3 ⟨rfl, rfl⟩
          clear c0
          go_wp2
          exact ⟨⟨1, by omega, rfl⟩, by simp [intOf]⟩
        · obtain rfl : k = 1 := by omega
          clear c0
          go_wp2_with fail
          refine (write_unmade _ _ _ _ _ c2).mono ?_
          rintro e w3 ⟨rfl, rfl⟩
          go_wp2_with fail
          refine (pending_unmade _ _ c2).mono ?_
          rintro e w3 ⟨rfl, rfl⟩
          go_wp2_with fail
          refine (flush_unmade _ _ c2).mono ?_
          rintro e w3 ⟨rfl, rfl⟩
          clear c1 c2
          go_wp2
          exact ⟨⟨2, by omega, rfl⟩, by simp [intOf]⟩
      · obtain rfl : k = 2 := by omega
        clear c0 c1 c2
        go_wp2_with fail
        refine (cnew_nil w2).mono ?_
        rintro e w3 ⟨rfl, rfl⟩
        have hz : (w2.alloc (.cells Try.zeroCells58 58)).cell? ⟨w2.heap.size, 515, none⟩ = some (.int .u64 0) := by
          have hbk : BK (w2.alloc (.cells Try.zeroCells58 58)) w2.heap.size 58 (tcs 0 0 zs zs 0) := by
            rw [zero_table]
            exact heap_new w2 _ rfl
          exact hbk.cell (i := 515) (by kernel_rfl)
        have HZ := Lib.hid hz
        clear hz
        go_wp2_with fail
        refine (cnew_unmade _ _ HZ.out).mono ?_
        rintro e w3 ⟨rfl, rfl⟩
        have HB3 : Hid (Below w.heap.size w (w2.alloc (.cells Try.zeroCells58 58))) := Lib.hid (HB2.out.alloc HB2.out.size _)
        go_wp2_with fail
        refine (all_nil _ _ _ _).mono ?_
        rintro e w3 ⟨rfl, rfl⟩
        go_wp2_with fail
        refine (awake_calls _).mono ?_
        rintro e w4 ⟨rfl, hb⟩
        have HB4 := Lib.hid (HB3.out.trans (hb.mono HB3.out.size))
        clear hb
        go_wp2
        go_ret
        exact ⟨rfl, HB4.out⟩
end Go.Proofs.Ytmohjgcnhibkoaa
