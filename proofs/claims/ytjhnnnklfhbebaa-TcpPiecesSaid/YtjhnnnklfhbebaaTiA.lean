/- slices.Clone and slices.Delete of packets: the walks. -/
import Derived.Test.YtjhnnnklfhbebaaTh
namespace Go.Proofs.Ytjhnnnklfhbebaa
open Go.RowKit
set_option linter.unusedVariables false
set_option linter.unusedSimpArgs false
theorem zeroCs_size : (Value.agg zeroCs.toArray).cells.size = 11 := rfl
theorem zeroCs_one : ∀ v ∈ (Value.agg zeroCs.toArray).cells.toList, v.oneCell' = true := by decide
theorem zeroCells_len (z : Array Value) (n : Nat) : (Builtin.zeroCells z n).toList.length = n * z.size := by
  unfold Builtin.zeroCells
  simp
theorem zeroCells_one (z : Array Value) (n : Nat) (h0 : 0 < z.size) (h1 : ∀ v ∈ z.toList, v.oneCell' = true) : ∀ v ∈ (Builtin.zeroCells z n).toList, v.oneCell' = true := by
  intro v hv
  unfold Builtin.zeroCells at hv
  simp only [Array.toList_map, List.mem_map, Array.toList_range, List.mem_range] at hv
  obtain ⟨i, hi, rfl⟩ := hv
  have hlt : i % z.size < z.size := Nat.mod_lt _ h0
  refine h1 _ ?_
  rw [getElem!_pos z _ hlt]
  exact Array.getElem_mem_toList hlt
/-- 'clear(s)', s of elements of several cells, within a block that is known whole. -/
theorem wpList_clear_cells {P : Program} {w : World} {ops : Array Oper} {rest : List Oper} {o : Oper} {a : Act} {Q : Exit → Act → World → Prop} (hgd : o.guard = none) (s : Operand) (sT : TypeId)
    (ho : o.op = .call { callee := .builtin .clear, args := #[s], argTypes := #[sT] }) (elem : TypeId) (hu : P.underlying sT = some (.slice elem)) (z : Value) (hz : (P.info? elem).map (fun i => i.zero) = some (some z)) (h0 : 0 < z.cells.size) (h1 : ∀ v ∈ z.cells.toList, v.oneCell' = true)
    (g off n c : Nat) (hs : a.eval s = .slice (some ⟨g, off, none⟩) n c) (hn : 0 < n) (cs : List Value) (t : TypeId) (hk : BK w g t cs) (hfit : off + n * z.cells.size ≤ cs.length)
    (h : ∀ xs : List Value, xs.length = n * z.cells.size → wpList P ops Q rest (a.put o.dst (.tuple #[])) (w.setCells g off xs)) : wpList P ops Q (o :: rest) a w := by
  refine wpList_plain hgd fun K hK => ?_
  have hv : ∀ w, (zeroValue elem).run P w = .ok z w := fun w => by
    cases hi : P.info? elem with
    | none => rw [hi] at hz; cases hz
    | some i =>
      rw [hi] at hz
      have hz0 : i.zero = some z := Option.some.inj hz
      simp [zeroValue, typeInfo, hi, hz0]
  have hrun : (Builtin.clear_ #[sT] o.type #[.slice (some ⟨g, off, none⟩) n c]).run P w = .ok (.tuple #[]) (w.setCells g off (Builtin.zeroCells z.cells n).toList) := by
    have hl := zeroCells_len z.cells n
    have hst := run_storeCells_cells (P := P) g off (Builtin.zeroCells z.cells n).toList 0 w (fun j hj => by
      rw [hl] at hj
      have hlt : off + 0 + j < cs.length := by omega
      rw [hk.cell (List.getElem?_eq_getElem hlt)]
      rfl) (fun j _ => hk.frozen _) (zeroCells_one z.cells n h0 h1)
    simp only [Nat.add_zero] at hst
    obtain ⟨m, rfl⟩ : ∃ m, n = m + 1 := ⟨n - 1, by omega⟩
    simp [Builtin.clear_, run_underlying hu, hv, hst]
  unfold Oper.wp
  simp [execOp, ho, resolve, invoke, builtin, hs, hrun, Result.andThen]
  exact hK _ _ (h _ (zeroCells_len _ _))
section
variable {N : Nat → Prop} {l : List Item} {w w' : World} {j : Nat}
theorem PkRow.erase {N : Nat → Prop} {w : World} : ∀ {ps : List Pk} {xs : List Value} (m : Nat), PkRow N w ps xs → m < ps.length → PkRow N w (ps.eraseIdx m) (xs.take (m * 11) ++ xs.drop ((m + 1) * 11))
  | p :: r, xs, 0, ⟨A, c, ys, e1, h1, h2, h3, h4⟩, _ => by
    have hl : (p.cs A p.data.length c).length = 11 := rfl
    rw [e1, Nat.zero_mul, List.take_zero, List.nil_append, Nat.zero_add, Nat.one_mul, List.drop_append, hl, List.drop_eq_nil_of_le (by omega), Nat.sub_self, List.drop_zero, List.nil_append]
    exact h4
  | p :: r, xs, m + 1, ⟨A, c, ys, e1, h1, h2, h3, h4⟩, hm => by
    have hl : (p.cs A p.data.length c).length = 11 := rfl
    refine ⟨A, c, ys.take (m * 11) ++ ys.drop ((m + 1) * 11), ?_, h1, h2, h3, PkRow.erase m h4 (by simpa using hm)⟩
    rw [e1, List.take_append, List.drop_append, hl, List.take_of_length_le (by omega), List.drop_eq_nil_of_le (by omega), List.nil_append, List.append_assoc, show (m + 1) * 11 - 11 = m * 11 by omega, show (m + 1 + 1) * 11 - 11 = (m + 1) * 11 by omega]
theorem PkRow.one {N : Nat → Prop} {w : World} : ∀ {ps : List Pk} {xs : List Value}, PkRow N w ps xs → ∀ v ∈ xs, v.oneCell' = true
  | [], _, h, v, hv => by rw [show _ = [] from h] at hv; cases hv
  | p :: r, _, ⟨A, c, ys, e1, h1, h2, h3, h4⟩, v, hv => by
    rw [e1, List.mem_append] at hv
    rcases hv with hv | hv
    · simp only [Pk.cs, List.mem_cons, List.not_mem_nil, or_false] at hv
      rcases hv with rfl | rfl | rfl | rfl | rfl | rfl | rfl | rfl | rfl | rfl | rfl <;> rfl
    · exact PkRow.one h4 v hv
set_option maxRecDepth 100000 in
set_option maxHeartbeats 1000000 in
/-- A clone of a row: one more. -/
theorem clonePk_calls (h : All N l w) {v : Value} {ps : List Pk} (hj : l[j]? = some (Item.row v ps)) (hl : ps.length ≤ 100000) :
    Calls Try.prog 72 #[v] w fun e w' => ∃ v', e = .returned v' ∧ Below w.heap.size w w' ∧ All N (l ++ [Item.row v' ps]) w' ∧ ∀ b, v'.ownBlock = some b → w.heap.size ≤ b := by
  have hrow := h.get j hj
  have HR := Lib.hid hrow
  have HH := Lib.hid h
  obtain ⟨A, cap, rfl, hcap, hmax, hA⟩ := row_form' hrow
  obtain ⟨n, hn⟩ : ∃ n, ps.length = n := ⟨_, rfl⟩
  rw [hn] at hcap hA hl HR ⊢
  have ke := fun (W : World) => Lib.run_eql_slice_nil (P := Try.prog) W 36 32 A n cap 0 0 Try.underlying36
  have HADD : Hid (∀ (W : World) (v' : Value) (xs : List Value), Below w.heap.size w W → W.ownsRow w.heap.size 32 11 v' n xs → PkRow (fun b => oth N l j b ∨ (Value.slice A n cap).ownBlock = some b) w ps xs → All N (l ++ [Item.row v' ps]) W ∧ ∀ b, v'.ownBlock = some b → w.heap.size ≤ b) := Lib.hid fun W v' xs hb ho hp => by
    have hob : ∀ b, v'.ownBlock = some b → w.heap.size ≤ b := fun b hb => (ho.lt b hb).1
    refine ⟨HH.out.add _ hb hob ⟨⟨xs, ?_, ?_⟩, fun b hb hn => ?_⟩, hob⟩
    · rw [hn]
      exact ⟨ho.1, ho.2.imp id fun ⟨g, cap, cur, x, y, z⟩ => ⟨g, cap, cur, x, Nat.zero_le _, z⟩⟩
    · refine (hp.weaken (N' := fun b => (N b ∨ anyOwn l b) ∨ v'.ownBlock = some b) fun b hlt hx => ?_).ext hb
      rcases hx with (hx | hx) | hx
      · exact .inl (.inl hx)
      · obtain ⟨i, I, hi, hx⟩ := hx
        by_cases hij : i = j
        · subst hij
          rw [hj] at hi
          cases hi
          refine .inr ?_
          have : (Value.slice A ps.length cap).ownBlock = some b := hx
          rw [hn] at this
          exact this
        · exact .inl (.inr ⟨i, I, hij, hi, hx⟩)
      · have := hob b hx
        omega
    · have := hob b hb
      rcases hn with hn | hn
      · have := HH.out.1 b hn
        omega
      · have := HH.out.own_lt b hn
        omega
  cases A with
  | none =>
    have h0 : n = 0 := by
      rcases Nat.eq_zero_or_pos n with e | e
      · exact e
      · obtain ⟨g, hg⟩ := hA e
        cases hg
    obtain rfl : ps = [] := List.eq_nil_of_length_eq_zero (by omega)
    subst h0
    clear hrow hA hn
    go_enter Try.func72, Try.ntmps72
    go_wp2
    go_ret
    have := HADD.out w (.slice none 0 0) [] (Below.refl _ _) (World.ownsRow_nil _ _ _ _) rfl
    exact ⟨_, rfl, Below.refl _ _, this.1, this.2⟩
  | some ad =>
    obtain ⟨⟨xs, hx1, hx2⟩, hx3⟩ := HR.out
    have hrv : ∀ j u, xs[j]? = some u → w.cell? (ad.add j) = some u := fun j u hu => by
      have hh := hx1
      obtain ⟨e1, e2⟩ := hh
      rcases e2 with ⟨e, _⟩ | ⟨g, cp, cur, e, _, _⟩
      · cases e
      · injection e with e
        injection e with e
        subst e
        exact World.ownsRow.cells hx1 rfl j u hu
    have HRV : Hid (∀ j u, xs[j]? = some u → (w.alloc (.cells #[] 32)).cell? (ad.add j) = some u) := Lib.hid fun j u hu => ((ext_alloc w _).cell (World.block_lt_of_cell? w _ (hrv j u hu))).trans (hrv j u hu)
    have HONE := Lib.hid hx2.one
    have HLEN : Hid (xs.length = n * 11) := Lib.hid (by rw [hx1.1, hn])
    have hlit := World.ownsRow_lit (base := w.heap.size) (e := 32) (size := 11) w #[] 0 (Nat.le_refl _) (by simp) rfl
    have HLIT := Lib.hid hlit
    have HX2 := Lib.hid hx2
    obtain ⟨i0, hi0, hz0, hz1, hz2⟩ := info_parts infoPk
    clear hx1 hx2 hx3 hrv hlit hrow hA hn
    go_enter Try.func72, Try.ntmps72
    go_wp2_with (at_builtin; refine wpList_append_own_at _ rfl _ _ 36 rfl w.heap.size 32 i0 (.agg zeroCs.toArray) 11 96 Try.underlying36 hi0 hz0 hz1 hz2 rfl (by decide) _ 0 [] rfl HLIT.out ad n cap xs rfl HLEN.out HRV.out HONE.out (by unfold maxLen; omega) (by omega) (by simp) ?_)
    intro v7 w7 a7 hg7 _ _
    have hb7 : Below w.heap.size w w7 := (ext_alloc w (.cells #[] 32)).grown hg7 (by simp) (fun x hx => by cases hx; exact Nat.le_refl _)
    have hO := HADD.out w7 v7 xs hb7 (by simpa using a7) HX2.out
    have HO := Lib.hid hO
    have HB7 := Lib.hid hb7
    clear a7 hg7 hb7 hO
    go_wp2
    go_ret
    exact ⟨_, rfl, HB7.out, HO.out.1, HO.out.2⟩
/-- 'append(s, x...)' of elements of several cells, s with room enough. -/
theorem wpList_appPk_fits {P : Program} {w : World} {ops : Array Oper} {rest : List Oper} {o : Oper} {a : Act} {Q : Exit → Act → World → Prop} (hgd : o.guard = none) (s x : Operand) (t : TypeId)
    (ho : o.op = .call { callee := .builtin .append, args := #[s, x], argTypes := #[t, t] }) (e : TypeId) (i : TypeInfo) (size : Nat) (ht : P.underlying t = some (.slice e)) (hi : P.info? e = some i) (hsize : i.size = size)
    (g n cap : Nat) (xs : List Value) (hs : a.eval s = .slice (some ⟨g, 0, none⟩) n cap) (hown : w.ownsRow 0 e size (.slice (some ⟨g, 0, none⟩) n cap) n xs)
    (ad : Addr) (m c : Nat) (news : List Value) (hx : a.eval x = .slice (some ad) m c) (hl : news.length = m * size) (hnews : ∀ j u, news[j]? = some u → w.cell? (ad.add j) = some u) (h1 : ∀ u ∈ news, u.oneCell' = true) (hroom : n + m ≤ cap)
    (h : ∀ w', w'.ownsRow 0 e size (.slice (some ⟨g, 0, none⟩) (n + m) cap) (n + m) (xs ++ news) → w.grownBy w' (some g) → wpList P ops Q rest (a.put o.dst (.slice (some ⟨g, 0, none⟩) (n + m) cap)) w') :
    wpList P ops Q (o :: rest) a w := by
  obtain ⟨w', hrun, hown', hg⟩ := run_append_fits (P := P) w 0 t o.type e i size ht hi hsize g n cap xs hown ad m c news hl hnews h1 hroom
  exact wpList_app_run hgd s x t t ho _ _ _ w' hs hx hrun (h w' hown' hg)
theorem ownsRow_take {w : World} {base size : Nat} {e : TypeId} {g n cap m : Nat} {xs : List Value} (h : w.ownsRow base e size (.slice (some ⟨g, 0, none⟩) n cap) n xs) (hm : m ≤ n) : w.ownsRow base e size (.slice (some ⟨g, 0, none⟩) m cap) m (xs.take (m * size)) := by
  have hle : m * size ≤ n * size := Nat.mul_le_mul_right _ hm
  obtain ⟨h1, h2 | ⟨g', cap', cur, e1, h3, h4, h5, h6, h7, h8⟩⟩ := h
  · cases h2.1
  · cases e1
    refine ⟨by rw [List.length_take]; omega, .inr ⟨g, cap, cur, rfl, h3, h4, by omega, h6, h7, ?_⟩⟩
    rw [← h8, List.take_take, Nat.min_eq_left hle]
theorem ownsRow_bk {w : World} {base size : Nat} {e : TypeId} {g n cap : Nat} {xs : List Value} (h : w.ownsRow base e size (.slice (some ⟨g, 0, none⟩) n cap) n xs) : ∃ cs, BK w g e cs ∧ cs.length = cap * size ∧ cs.take (n * size) = xs ∧ base ≤ g ∧ n ≤ cap ∧ cap ≤ maxLen := by
  obtain ⟨h1, h2 | ⟨g', cap', cur, e1, h3, h4, h5, h6, h7, h8⟩⟩ := h
  · cases h2.1
  · cases e1
    exact ⟨cur.toList, by unfold BK; simpa using h4, by simpa using h7, h8, h3, h5, h6⟩
set_option maxRecDepth 100000 in
set_option maxHeartbeats 1000000 in
/-- Delete of one: in place. -/
theorem deletePk_calls (h : All N l w) {v : Value} {ps : List Pk} (hj : l[j]? = some (Item.row v ps)) (at_ : Nat) (hat : at_ < ps.length) (hl : ps.length ≤ 100000) :
    Calls Try.prog 71 #[v, .int .i64 (at_ : Int), .int .i64 ((at_ + 1 : Nat) : Int)] w fun e w' => ∃ v', e = .returned v' ∧ v'.ownBlock = v.ownBlock ∧ Only (fun b => v.ownBlock = some b) w w' ∧ All N (l.set j (Item.row v' (ps.eraseIdx at_))) w' := by
  have hrow := h.get j hj
  have HR := Lib.hid hrow
  have HH := Lib.hid h
  obtain ⟨A, cap, rfl, hcap, hmax, hA⟩ := row_form' hrow
  obtain ⟨g, rfl⟩ := hA (by omega)
  obtain ⟨n, hn⟩ : ∃ n, ps.length = n := ⟨_, rfl⟩
  obtain ⟨a1, ha1⟩ : ∃ a1, at_ + 1 = a1 := ⟨_, rfl⟩
  obtain ⟨m, hm⟩ : ∃ m, n - a1 = m := ⟨_, rfl⟩
  have HN := Lib.hid hn
  rw [hn] at hcap hl hat HR ⊢
  rw [ha1]
  obtain ⟨⟨xs, hx1, hx2⟩, hx3⟩ := HR.out
  rw [hn] at hx1
  have HX1 := Lib.hid hx1
  have HX2 := Lib.hid hx2
  have HX3 := Lib.hid hx3
  have HLEN : Hid (xs.length = n * 11) := Lib.hid hx1.1
  obtain ⟨i0, hi0, hz0, hz1, hz2⟩ := info_parts infoPk
  have h01 : (0 : Int) ≤ (at_ : Int) := by omega
  have h02 : (at_ : Int) ≤ (a1 : Int) := by omega
  have h03 : (a1 : Int) ≤ (n : Int) := by omega
  have h04 : (n : Int) ≤ (cap : Int) := by omega
  have hne : ¬ at_ = a1 := by omega
  have hnei : ((at_ : Int) == (a1 : Int)) = false := beq_eq_false_iff_ne.2 (by omega)
  have h05 : (at_ : Int) ≤ (cap : Int) := by omega
  have h06 : (at_ : Int) ≤ (n : Int) := by omega
  have hca : ¬ cap = at_ := by omega
  have hc0 : ¬ cap = 0 := by omega
  clear hx1 hx2 hx3 hrow hA
  go_enter Try.func71, Try.ntmps71
  go_upto_region 5 with fail
  obtain ⟨n1, hn1⟩ : ∃ n1, at_ + m = n1 := ⟨_, rfl⟩
  have hn1n : n1 + 1 = n := by omega
  obtain ⟨ys, hys⟩ : ∃ ys, xs.take (at_ * 11) ++ xs.drop ((at_ + 1) * 11) = ys := ⟨_, rfl⟩
  have HYS := Lib.hid hys
  have HAP : Hid (∀ W : World, W.ownsRow 0 32 11 (.slice (some ⟨g, 0, none⟩) n1 cap) n1 (xs.take (at_ * 11) ++ xs.drop (a1 * 11)) → w.drew.grownBy W (some g) → W.ownsRow 0 32 11 (.slice (some ⟨g, 0, none⟩) n1 cap) n1 ys ∧ Only (fun b => some g = some b) w W) := Lib.hid fun W h1 h2 => ⟨by rw [← HYS.out, ha1]; exact h1, (Only.of_below (Below.refl _ _)).drew.trans (grown_only h2) fun b hb => .inl hb⟩
  have HTK : Hid (w.drew.ownsRow 0 32 11 (.slice (some ⟨g, 0, none⟩) at_ cap) at_ (xs.take (at_ * 11))) := Lib.hid (ownsRow_take (w := w.drew) (ownsRow_same HX1.out fun _ _ => rfl) (by omega))
  have HONE := Lib.hid HX2.out.one
  have HND : Hid (∀ j u, (xs.drop (a1 * 11))[j]? = some u → w.drew.cell? ((⟨g, a1 * 11, none⟩ : Addr).add j) = some u) := Lib.hid fun j u hu => by
    rw [List.getElem?_drop] at hu
    have := World.ownsRow.cells HX1.out rfl (a1 * 11 + j) u hu
    rw [add_pl, Nat.zero_add] at this
    rw [add_pl]
    exact this
  have HA1 := Lib.hid ha1
  have HM := Lib.hid hm
  have hmn : n1 = at_ + m := hn1.symm
  have HN1 := Lib.hid hmn
  go_cut [0] from 20 to 26 (fun v wc => v = .slice (some ⟨g, 0, none⟩) n1 cap ∧ Hid (wc.ownsRow 0 32 11 (.slice (some ⟨g, 0, none⟩) n1 cap) n1 ys ∧ Only (fun b => some g = some b) w wc))
  case first =>
    by_cases hE : a1 = cap
    · have hm0 : m = 0 := by omega
      have HDR : Hid (xs.drop (a1 * 11) = []) := Lib.hid (List.drop_eq_nil_of_le (by rw [HLEN.out]; exact Nat.mul_le_mul_right 11 (by omega)))
      subst hE
      clear hmn hn1n hn1 ha1 hm
      subst hm0
      go_still_tail 6, (by kernel_rfl)
      change wpList _ _ _ _ _ w.drew
      refine wpList_appPk_fits rfl (.tmp 22) (.tmp 25) 36 rfl 32 i0 11 Try.underlying36 hi0 hz1 g at_ a1 (xs.take (at_ * 11)) rfl HTK.out ⟨g, 0, none⟩ 0 0 [] rfl rfl (fun j u hj => by cases hj) (fun u hu => by cases hu) (by have := HM.out; omega) ?_
      intro w3 h3 hg3
      rw [← HN1.out] at h3 ⊢
      have HI := Lib.hid (HAP.out w3 (by rw [HDR.out]; exact h3) hg3)
      clear h3 hg3
      go_wp2_with fail
      go_meet
      case rel => exact ⟨rfl, HI⟩
    · have hE2 : ¬ cap = a1 := fun e => hE e.symm
      clear hmn hn1n hn1 ha1
      go_still_tail 6, (by kernel_rfl)
      change wpList _ _ _ _ _ w.drew
      refine wpList_appPk_fits rfl (.tmp 22) (.tmp 25) 36 rfl 32 i0 11 Try.underlying36 hi0 hz1 g at_ cap (xs.take (at_ * 11)) rfl HTK.out ⟨g, a1 * 11, none⟩ m (cap - a1) (xs.drop (a1 * 11)) rfl (by rw [List.length_drop, HLEN.out]; have := HM.out; omega) HND.out (fun u hu => HONE.out u (List.mem_of_mem_drop hu)) (by have := HM.out; omega) ?_
      intro w3 h3 hg3
      rw [← HN1.out] at h3 ⊢
      have HI := Lib.hid (HAP.out w3 h3 hg3)
      clear h3 hg3
      go_wp2_with fail
      go_meet
      case rel => exact ⟨rfl, HI⟩
  case rest =>
    obtain ⟨rfl, hI⟩ := hcut
    obtain ⟨w3, rfl⟩ : ∃ w3, w3 = wc := ⟨_, rfl⟩
    obtain ⟨cs, hk, hcl, hct, _, hnc, hmc⟩ := ownsRow_bk hI.out.1
    have HK := Lib.hid hk
    have HCL := Lib.hid hcl
    have HCT := Lib.hid hct
    have g1 : (n1 : Int) ≤ (n : Int) := by omega
    have g2 : (n1 : Int) ≤ (cap : Int) := by omega
    have g3 : ¬ cap = n1 := by omega
    have hn1' : n - n1 = 1 := by omega
    have hzz : (Try.prog.info? 32).map (fun i => i.zero) = some (some (.agg zeroCs.toArray)) := by rw [hi0]; exact congrArg some hz0
    clear hk hcl hct hnc hmc hn1 hmn hm ha1 HAP HTK HND
    go_wp2_with (with_reducible refine at_clear ?_; refine wpList_clear_cells rfl (.tmp 31) 36 rfl 32 Try.underlying36 (.agg zeroCs.toArray) hzz (by decide) zeroCs_one g (n1 * 11) 1 (cap - n1) rfl (by omega) cs 32 HK.out (by rw [HCL.out, zeroCs_size]; omega) ?_)
    intro zs hzs
    have hzl : zs.length = 11 := by rw [hzs]; rfl
    have hbs := BK.setCells zs (n1 * 11) cs w3 HK.out (by rw [HCL.out, hzl]; omega)
    have hon : Only (fun b => some g = some b) w (w3.setCells g (n1 * 11) zs) := hI.out.2.trans (grown_only (grown_setCells w3 g (n1 * 11) zs)) fun b hb => .inl hb
    have hoR : (w3.setCells g (n1 * 11) zs).ownsRow 0 32 11 (.slice (some ⟨g, 0, none⟩) n1 cap) n1 ys := by
      refine ⟨hI.out.1.1, .inr ⟨g, cap, _, rfl, Nat.zero_le _, hbs, by omega, hmax, ?_, ?_⟩⟩
      · rw [List.size_toArray, List.length_append, List.length_append, List.length_take, List.length_drop, HCL.out, hzl]
        omega
      · rw [List.toList_toArray, List.append_assoc, List.take_append_of_le_length (by rw [List.length_take, HCL.out]; omega), List.take_take, Nat.min_self]
        exact HCT.out
    have hfin : All N (l.set j (Item.row (.slice (some ⟨g, 0, none⟩) n1 cap) (ps.eraseIdx at_))) (w3.setCells g (n1 * 11) zs) := by
      refine HH.out.set j hj (Item.row (.slice (some ⟨g, 0, none⟩) n1 cap) (ps.eraseIdx at_)) hon (fun b hb => .inl hb) ⟨⟨ys, ?_, ?_⟩, fun b hb => HX3.out b hb⟩
      · have : (ps.eraseIdx at_).length = n1 := by rw [List.length_eraseIdx_of_lt (by rw [HN.out]; exact hat), HN.out]; omega
        rw [this]
        exact hoR
      · rw [← HYS.out]
        exact (HX2.out.erase at_ (by rw [HN.out]; exact hat)).fr fun i hi hn => hon.block i hi (fun e => hn (.inr e))
    have HF := Lib.hid hfin
    have HON := Lib.hid hon
    clear hbs hon hoR hfin hzs
    go_wp2_with fail
    go_ret
    exact ⟨_, rfl, rfl, HON.out, HF.out⟩
end
end Go.Proofs.Ytjhnnnklfhbebaa
