/- 'append(s, make([]byte, k)...)' onto a row of one's own. No program. The walk of the law DigestLengths. -/
import Derived.Test.YtchbnablefoemaaDoorBlk
import Derived.Lib.AppendZerosOnto
import Derived.Test.YtchbnablefoemaaDoorLawSums
namespace Go.Proofs.YtchbnablefoemaaDoor
open Go.RowKit
set_option linter.unusedVariables false

theorem zeroCells_list (n : Nat) : (Builtin.zeroCells (Value.int .u8 0).cells n).toList = (List.replicate n (0 : UInt8)).map vb := by
  rw [List.map_replicate]
  rw [show (Value.int .u8 0).cells = #[Value.int .u8 0] from rfl]
  simp only [Builtin.zeroCells, vb]
  apply List.ext_getElem
  · simp
  · intro i h1 h2
    simp [Nat.mod_one]
theorem run_zeros_onto {P : Program} (w : World) (t ti ty e : TypeId) (ht : P.underlying t = some (.slice e)) (hti : P.underlying ti = some (.int .i64)) (hinfo : (P.info? e).map (fun i => (i.zero, i.size, i.bytes)) = some (some (.int .u8 0), 1, 1))
    (base g n cap : Nat) (l : List UInt8) (ho : OwnB base e w (.slice (some ⟨g, 0, none⟩) n cap) l) (k : Nat) (hk : k ≤ 100000) (hn : n ≤ 100000) (hbase : base ≤ w.heap.size) :
    ∃ g' cap' w', (Builtin.append_ #[t, ti] ty #[.slice (some ⟨g, 0, none⟩) n cap, .int .i64 (k : Int)]).run P w = .ok (.slice (some ⟨g', 0, none⟩) (n + k) cap') w' ∧ OwnB base e w' (.slice (some ⟨g', 0, none⟩) (n + k) cap') (l ++ List.replicate k 0) ∧ w.grownBy w' (some g) := by
  obtain ⟨i, hi, hz, hsize, hby⟩ := info_parts hinfo
  have hown : w.ownsRow base e 1 (.slice (some ⟨g, 0, none⟩) n cap) l.length (l.map vb) := ho
  rcases hown.2 with ⟨h', _⟩ | ⟨g', cap', cur, h', hbg, hg, hnc, hcm, hcs, htake⟩
  · cases h'
  cases h'
  have hw : IntKind.i64.wrap (k : Int) = k := by rw [IntKind.wrap_i64]; omega
  have hneg : ¬ ((k : Int) < 0) := by omega
  have h48i : ¬ (281474976710656 < (k : Int)) := by omega
  have hlen : (l.map vb ++ (List.replicate k (0 : UInt8)).map vb).length = l.length + k := by simp
  by_cases hroom : l.length + k ≤ cap
  · by_cases h0 : k = 0
    · subst h0
      refine ⟨g, cap, w, ?_, by simpa using ho, World.grownBy.refl _ _⟩
      rw [show ((0 : Nat) : Int) = 0 from rfl] at hw ⊢
      simp [Builtin.append_, run_underlying ht, run_underlying hti, sizeOf, typeInfo, hi, hby, asInt, asIntOf, hw, hnc, storeCells]
    · have hst := run_storeCells_at P g (l.length * 1) e ((List.replicate k (0 : UInt8)).map vb) 0 cur w hg (by simp; omega) (vb_one _)
      simp only [Nat.add_zero, Nat.mul_one] at hst
      rw [← zeroCells_list k] at hst
      have hr : (Builtin.append_ #[t, ti] ty #[.slice (some ⟨g, 0, none⟩) l.length cap, .int .i64 (k : Int)]).run P w = .ok (.slice (some ⟨g, 0, none⟩) (l.length + k) cap) (w.setRow g (cur.toList.take l.length ++ (Builtin.zeroCells (Value.int .u8 0).cells k).toList ++ cur.toList.drop (l.length + (Builtin.zeroCells (Value.int .u8 0).cells k).toList.length)).toArray) := by
        simp [Builtin.append_, run_underlying ht, run_underlying hti, sizeOf, typeInfo, zeroValue, hi, hz, hby, hsize, asInt, asIntOf, hw, hroom, hneg, h48i, h0, Addr.add_lit, hst]
      refine ⟨g, cap, _, hr, ⟨?_, .inr ⟨g, cap, _, ?_, hbg, setRow_heap w g cur _ e _ hg, ?_, hcm, ?_, ?_⟩⟩, ⟨rfl, rfl, rfl, by simp, fun j _ hj => setRow_other w g j _ (fun e => hj (by simp [e]))⟩⟩
      · rw [List.map_append]; exact hlen.trans (by simp)
      · rw [List.length_append, List.length_replicate]
      · rw [List.length_append, List.length_replicate]; exact hroom
      · rw [zeroCells_list]
        simp only [List.size_toArray, List.length_append, List.length_take, List.length_drop, Array.length_toList, List.length_map, List.length_replicate]
        omega
      · rw [zeroCells_list, List.length_append, List.length_replicate, List.map_append]
        rw [Nat.mul_one] at htake
        rw [htake, Nat.mul_one, ← hlen]
        exact List.take_left
  · have holds : ∀ j u, (l.map vb)[j]? = some u → w.cell? ((⟨g, 0, none⟩ : Addr).add j) = some u := hown.cells (g := g) rfl
    have hfo := run_firstCells_some (P := P) w.drew i.size l.length ⟨g, 0, none⟩ l.length cap (l.map vb) (by simp [hsize]) (by simpa using holds)
    have hr := Go.Lib.run_append_grow_zeros (P := P) w t ti ty e i (.int .u8 0) .i64 .i64 ht hti hi hz (some ⟨g, 0, none⟩) l.length cap (l.map vb) hfo k (by omega) (by omega) (by omega) (by omega) (by rw [hby]; omega) (by rw [hby]; exact growslice_fits (by omega) (by omega))
    have hge := grownCap_ge w (l.length + k) cap e
    have hcm2 : grownCap w (l.length + k) cap e ≤ maxLen := grownCap_le_maxLen w (l.length + k) cap e (by simp only [maxLen]; omega)
    refine ⟨w.heap.size, _, _, hr, ⟨?_, .inr ⟨w.heap.size, _, _, ?_, hbase, heap_alloc_new w.drew _, ?_, hcm2, ?_, ?_⟩⟩, grown_of_below (((Below.refl _ _).drew).alloc (Nat.le_refl _) _) _⟩
    · rw [List.map_append]; exact hlen.trans (by simp)
    · rw [List.length_append, List.length_replicate]
    · rw [List.length_append, List.length_replicate]; exact hge
    · simp only [Array.size_append, List.size_toArray, size_zeroCells, List.length_map, show (Value.int .u8 0).cells.size = 1 from rfl]
      omega
    · simp only [Array.toList_append, zeroCells_list]
      rw [List.length_append, List.length_replicate, Nat.mul_one, List.map_append, ← hlen]
      exact List.take_left
end Go.Proofs.YtchbnablefoemaaDoor
namespace Go.Proofs.YtchbnablefoemaaDoor
open Go.RowKit
set_option linter.unusedVariables false

theorem u64_some (x : Int) : ∃ n : Nat, IntKind.u64.wrap x = n ∧ n < 18446744073709551616 := by
  have h : IntKind.u64.wrap x = x % 18446744073709551616 := by simp [IntKind.wrap, IntKind.bits, IntKind.signed]
  exact ⟨(x % 18446744073709551616).toNat, by rw [h]; omega, by omega⟩
theorem flip1 (a : Nat) (h : a ≤ 255) : ∃ y : UInt8, bits .xor .u8 (a : Int) 1 = (y.toNat : Int) := by
  have h1 : a ^^^ 1 < 256 := Nat.xor_lt_two_pow (n := 8) (by omega) (by decide)
  refine ⟨UInt8.ofNat (a ^^^ 1), ?_⟩
  rw [show (1 : Int) = ((1 : Nat) : Int) from rfl, xor_u8 _ _ (by omega) (by decide)]
  rw [UInt8.toNat_ofNat', Nat.mod_eq_of_lt h1]
set_option maxRecDepth 100000 in
set_option maxHeartbeats 2000000 in
theorem lengths_walk (w : World) (hT : Tabs w) (A : Option Addr) (c : Nat) (l : List UInt8) (h : RB w A l) (hc : l.length ≤ c) (hl : l.length ≤ 140737488351232) (at_ : Int) (ha0 : -9223372036854775808 ≤ at_) (ha1 : at_ ≤ 9223372036854775807) (x : Int) (hx0 : -9223372036854775808 ≤ x) (hx1 : x ≤ 9223372036854775807) :
    Calls Tryd.prog 6 #[.slice A l.length c, .int .i64 at_, .int .i64 x] w fun e w' => e = .returned (.bool true) ∧ Below w.heap.size w w' := by
  have HT := Lib.hid hT
  have H := Lib.hid h
  obtain ⟨n, hn⟩ : ∃ n, l.length = n := ⟨_, rfl⟩
  rw [hn] at hc hl ⊢
  have HN := Lib.hid hn
  clear hT h hn
  by_cases hs : 8192 < n
  · go_enter Tryd.func6, Tryd.ntmps6
    go_wp2_with fail
    refine (awake_calls _ HT.out).mono ?_
    rintro e w2 ⟨rfl, hb⟩
    have HB := Lib.hid hb
    clear hb
    go_wp2
    go_ret
    exact ⟨rfl, HB.out⟩
  by_cases hs0 : n = 0
  · subst hs0
    go_enter Tryd.func6, Tryd.ntmps6
    go_wp2_with fail
    refine (awake_calls _ HT.out).mono ?_
    rintro e w2 ⟨rfl, hb⟩
    have HB := Lib.hid hb
    clear hb
    go_wp2
    go_ret
    exact ⟨rfl, HB.out⟩
  have d0 : ((n : Int) == 0) = false := beq_eq_false_iff_ne.2 (by omega)
  obtain ⟨a, ha, ha64⟩ := u64_some at_
  obtain ⟨y, hy, hy64⟩ := u64_some x
  obtain ⟨k, hk, hk130⟩ : ∃ k : Nat, (a : Int).tmod 130 = k ∧ k < 130 := ⟨a % 130, tmod_nat a 130, Nat.mod_lt _ (by omega)⟩
  obtain ⟨m, hm⟩ : ∃ m, n + k = m := ⟨_, rfl⟩
  have hm0 : 0 < m := by omega
  have hm1 : m ≤ 9000 := by omega
  obtain ⟨j, hj, hjm⟩ : ∃ j : Nat, (y : Int).tmod (m : Int) = j ∧ j < m := ⟨y % m, tmod_nat y m, Nat.mod_lt _ hm0⟩
  have HM := Lib.hid hm
  have dm : ((m : Int) == 0) = false := beq_eq_false_iff_ne.2 (by omega)
  have hmw : IntKind.u64.wrap (m : Int) = (m : Int) := IntWalk.u64_in _ (by omega)
  clear hm
  go_enter Tryd.func6, Tryd.ntmps6
  go_wp2_with fail
  refine (clone_n A c n l HN.out w H.out (by omega)).mono ?_
  rintro e w1 ⟨R, d, rfl, hd, hr, ho, hb⟩
  obtain ⟨g, cc, e1, hg0, hg1, _⟩ := ho.block (by rw [HN.out]; omega)
  injection e1 with ea eb ec
  subst ea
  clear eb ec
  have HB := Lib.hid hb
  have hsz := hb.size
  obtain ⟨g', cap', w2, hrun, ho2, hg2⟩ := run_zeros_onto (P := Tryd.prog) w1 22 3 22 5 Tryd.underlying22 Tryd.underlying3 infoB w.heap.size g n d l ho k (by omega) (by omega) hsz
  rw [HM.out] at hrun ho2
  have hL2 : (l ++ List.replicate k 0).length = m := by rw [List.length_append, List.length_replicate, HN.out, HM.out]
  obtain ⟨L, hL⟩ : ∃ L, l ++ List.replicate k 0 = L := ⟨_, rfl⟩
  rw [hL] at ho2 hL2
  have HB2 : Hid (Below w.heap.size w w2) := Lib.hid (below_grown HB.out hg2 hsz hg0)
  have HRUN := Lib.hid hrun
  have HO2 := Lib.hid ho2
  have HL2 := Lib.hid hL2
  clear hrun ho2 hg2 hL2 hL ho hr hb HB
  obtain ⟨hcj, hfj⟩ := HO2.out.cell j (by rw [HL2.out]; exact hjm)
  have hg8 := gb_lt L j
  obtain ⟨y2, hy2⟩ := flip1 (gb L j) hg8
  have HO3 := Lib.hid (HO2.out.set j y2)
  have HB3 : Hid (Below w.heap.size w (w2.setCell ⟨g', j, none⟩ (.int .u8 (y2.toNat : Int)))) := Lib.hid (HB2.out.setCell (p := ⟨g', j, none⟩) (HO2.out.lt g' rfl).1 _)
  have HL3 : Hid ((L.set j y2).length = m) := Lib.hid (by rw [List.length_set]; exact HL2.out)
  obtain ⟨gv, hgv⟩ : ∃ v, gb L j = v := ⟨_, rfl⟩
  rw [hgv] at hcj hg8 hy2
  have hj0 : (0 : Int) ≤ j := by omega
  clear hgv HO2 HL2
  go_wp2_with (at_builtin; refine wpList_app_run rfl _ _ _ _ rfl _ _ _ _ rfl rfl HRUN.out ?_)
  have hD := sumL_length (L.set j y2)
  have kq : ∀ W : World, (binOp .eql 33 (.agg ((sumL (L.set j y2)).map vb).toArray) (.agg ((sumL (L.set j y2)).map vb).toArray)).run Tryd.prog W = .ok (.bool true) W := fun W => by
    rw [eq32 W _ _ hD hD]; simp
  obtain ⟨D, hDD⟩ : ∃ D, sumL (L.set j y2) = D := ⟨_, rfl⟩
  rw [hDD] at kq
  have HDD : Hid (∀ _ : Unit, sumL (L.set j y2) = D) := Lib.hid fun _ => hDD
  clear hD hDD
  obtain ⟨w3, hw3⟩ : ∃ w3, w2.setCell ⟨g', j, none⟩ (.int .u8 (y2.toNat : Int)) = w3 := ⟨_, rfl⟩
  have hsz3 : w2.heap.size = w3.heap.size := by rw [← hw3]; simp
  rw [hw3] at HO3 HB3 ⊢
  rw [hsz3]
  clear hsz3
  obtain ⟨_, _, e3, hr3, hc3, _⟩ := HO3.out.form
  rw [HL3.out] at e3 hc3
  injection e3 with ea eb ec
  subst ea ec
  have HR3 := Lib.hid hr3
  clear hw3 eb hr3 HRUN
  refine (of_one (some ⟨g', 0, none⟩) cap' m (L.set j y2) HL3.out w3 (HT.out.ext HB3.out) HR3.out hc3 (by omega)).mono ?_
  rintro e w4 ⟨rfl, hb⟩
  have HB4 := Lib.hid (ext_trans HB3.out hb)
  have HR4 := Lib.hid (HR3.out.ext hb)
  rw [HDD.out ()]
  clear hb HB3 HR3 HO3
  go_wp2_with fail
  refine (rof_calls (some ⟨g', 0, none⟩) cap' m (L.set j y2) HL3.out w4 HR4.out (by omega)).mono ?_
  rintro e w5 ⟨rfl, hb⟩
  have HB5 := Lib.hid (ext_trans HB4.out hb)
  rw [HDD.out ()]
  clear hb HB4 HR4
  go_wp2_with fail
  refine (awake_calls _ (HT.out.ext HB5.out)).mono ?_
  rintro e w7 ⟨rfl, hb⟩
  have HB7 := Lib.hid (ext_trans HB5.out hb)
  clear hb
  go_wp2
  go_ret
  exact ⟨rfl, HB7.out⟩
end Go.Proofs.YtchbnablefoemaaDoor
