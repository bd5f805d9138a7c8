/- The walks of flumeref01's Add, Words and Inet (out of the texts of the sums), and that Inet is inetN. -/
import Derived.Test.YtobkelpeenckeaaSumsA
import Derived.Test.YtobkelpeenckeaaOwn
import Derived.Deep.QuietTactic
import Derived.BigQuiet
namespace Go.Proofs.Ytobkelpeenckeaa
open Go.RowKit
set_option linter.unusedVariables false
set_option linter.unusedSimpArgs false

/-- The reference's sum with carries. -/
theorem tmod_65536 (n : Nat) : ((n : Int) % 65536) = ((n % 65536 : Nat) : Int) := by omega
def addTo (l : List Nat) : Nat → Nat
  | 0 => 0
  | k + 1 => addTo l k + l.getD k 0
theorem addTo_le (l : List Nat) (B k : Nat) (h : ∀ i, l.getD i 0 ≤ B) : addTo l k ≤ B * k := by
  induction k with
  | zero => simp [addTo]
  | succ k ih => have := h k; simp only [addTo, Nat.mul_succ]; omega
def RI (w : World) (A : Option Addr) (l : List Nat) : Prop :=
  ∀ i, i < l.length → ∃ b o, A = some ⟨b, o, none⟩ ∧ w.cell? ⟨b, o + i, none⟩ = some (.int .i64 (l.getD i 0 : Int))

set_option maxHeartbeats 1000000 in
theorem radd_calls (A : Option Addr) (c : Nat) (l : List Nat) (w : World) (h : RI w A l) (hn : l.length ≤ 70000000000000) (hl : ∀ i, l.getD i 0 ≤ 65535) :
    Calls Try.prog 52 #[.slice A l.length c] w fun e w' => e = .returned (.int .i64 (foldN (addTo l l.length) : Nat)) ∧ w = w' := by
  have H := Lib.hid h
  clear h
  have HL := Lib.hid hl
  clear hl
  go_enter Try.func52, Try.ntmps52
  go_wp2
  go_loop [3, 8] (fun v i => ∃ k : Nat, k ≤ l.length ∧ i = .int .i64 k ∧ v = .int .i64 (addTo l k : Nat)) (fun _ i => l.length - (intOf i).toNat)
  case atStart => exact ⟨0, Nat.zero_le _, rfl, rfl⟩
  case round =>
    obtain ⟨k, hk, rfl, rfl⟩ := hrel
    have hb := addTo_le l 65535 k HL.out
    by_cases h1 : k < l.length
    · obtain ⟨b, o, rfl, hc⟩ := H.out k h1
      have hs : Hid (addTo l (k + 1) = addTo l k + l.getD k 0) := rfl
      have hx := HL.out k
      generalize l.getD k 0 = x at *
      generalize addTo l k = q at *
      go_wp2
      go_round
      case rel => exact ⟨k + 1, by omega, by go_num, by rw [hs.out]; go_num⟩
      case measure => simp [intOf]; omega
    · obtain rfl : k = l.length := by omega
      obtain ⟨n, hN⟩ : ∃ n, foldN n = foldN (addTo l l.length) ∧ n = addTo l l.length := ⟨_, rfl, rfl⟩
      obtain ⟨hN, hN'⟩ := hN
      rw [← hN']
      rw [← hN'] at hb
      have HN' := Lib.hid hN'
      have HNN := Lib.hid hN
      clear hN hN'
      go_wp2
      go_loop [3] (fun v => ∃ m : Nat, v = .int .i64 m ∧ Hid (foldN m = foldN n) ∧ m ≤ 9223372036854775807) (fun v => (intOf v).toNat)
      case atStart => exact ⟨n, rfl, rfl, by omega⟩
      case round =>
        obtain ⟨m, rfl, hm, hb⟩ := hrel
        by_cases hlt : 65535 < m
        · go_wp2
          go_round
          case rel => exact ⟨m / 65536 + m % 65536, by go_num, (foldN_step m hlt).trans hm.out, by omega⟩
          case measure => simp [intOf]; omega
        · go_wp2
          go_ret
          exact ⟨ret_int (by rw [← HNN.out, ← hm.out, foldN_small m (by omega)]), rfl⟩


theorem infoI : (Try.prog.info? 3).map (fun i => (i.zero, i.size, i.bytes)) = some (some (.int .i64 0), 1, 8) := by kernel_rfl
/-- An int as a value. -/
def vi (n : Nat) : Value := .int .i64 (n : Int)
/-- A row of ints of the call's own. -/
def OwnI (base : Nat) (w : World) (v : Value) (l : List Nat) : Prop := w.ownsRow base 3 1 v l.length (l.map vi)
theorem vi_one (l : List Nat) : ∀ u ∈ l.map vi, u.oneCell' = true := by
  intro u hu
  obtain ⟨x, _, rfl⟩ := List.mem_map.1 hu
  rfl
theorem RI.of_RV {w : World} {A : Option Addr} {l : List Nat} (h : RV w A (l.map vi)) : RI w A l := fun i hi => h i _ (by simp [vi, List.getD_eq_getElem?_getD, List.getElem?_eq_getElem hi])
theorem RV.of_RI {w : World} {A : Option Addr} {l : List Nat} (h : RI w A l) : RV w A (l.map vi) := fun j u hj => by
  have hlt : j < l.length := by have := (List.getElem?_eq_some_iff.1 hj).1; simpa using this
  obtain ⟨b, o, rfl, hc⟩ := h j hlt
  have e : (l.map vi)[j]? = some (.int .i64 (l.getD j 0 : Int)) := by simp [vi, List.getD_eq_getElem?_getD, List.getElem?_eq_getElem hlt]
  rw [e] at hj
  cases hj
  exact ⟨b, o, rfl, hc⟩
theorem OwnI.form {base : Nat} {w : World} {v : Value} {l : List Nat} (h : OwnI base w v l) : ∃ A c, v = .slice A l.length c ∧ RI w A l ∧ l.length ≤ c := by
  rcases h.2 with ⟨rfl, h0⟩ | ⟨g, cap, cur, rfl, _, _, hc, hm, _⟩
  · obtain rfl : l = [] := List.eq_nil_of_length_eq_zero h0
    exact ⟨none, 0, rfl, fun i hi => absurd hi (by simp), Nat.le_refl _⟩
  · refine ⟨_, cap, rfl, RI.of_RV fun j u hj => ⟨g, 0, rfl, ?_⟩, hc⟩
    have := h.cells (g := g) rfl j u hj
    rw [show (⟨g, 0, none⟩ : Addr).add j = ⟨g, 0 + j, none⟩ by unfold Addr.add; split <;> simp_all] at this
    exact this
theorem OwnI.ext {base : Nat} {w w' : World} {v : Value} {l : List Nat} (h : OwnI base w v l) (k : Below w.heap.size w w') : OwnI base w' v l :=
  World.ownsRow.kept (row := none) h ⟨k.os, k.tape, k.output, k.size, fun i hi _ => k.block i hi⟩ (by cases v.ownBlock <;> simp)
theorem OwnI.mono {base base' : Nat} {w : World} {v : Value} {l : List Nat} (h : OwnI base w v l) (hb : base' ≤ base) : OwnI base' w v l :=
  ⟨h.1, h.2.imp id fun ⟨g, cap, cur, a, b, c⟩ => ⟨g, cap, cur, a, Nat.le_trans hb b, c⟩⟩
theorem OwnI.nil (base : Nat) (w : World) : OwnI base w (.slice none 0 0) [] := World.ownsRow_nil w base _ 1
theorem OwnI.below {base : Nat} {w0 w w' : World} {v : Value} {l : List Nat} (h : OwnI base w v l) (hB : Below base w0 w) (hg : w.grownBy w' v.ownBlock) (hb : base ≤ w.heap.size) : Below base w0 w' :=
  hB.grown hg hb fun k hk => (h.lt k hk).1
theorem RI.ext {w w' : World} {A : Option Addr} {l : List Nat} (h : RI w A l) (e : Below w.heap.size w w') : RI w' A l := fun i hi => by
  obtain ⟨b, o, rfl, hc⟩ := h i hi
  exact ⟨b, o, rfl, (e.cell (p := ⟨b, o + i, none⟩) (World.block_lt_of_cell? w _ hc)).trans hc⟩
/-- append of ints. -/
theorem wpList_appI {w : World} {ops : Array Oper} {rest : List Oper} {o : Oper} {a : Act} {Q : Exit → Act → World → Prop} (hgd : o.guard = none) (s x : Operand)
    (ho : o.op = .call { callee := .builtin .append, args := #[s, x], argTypes := #[71, 71] })
    (base : Nat) (v : Value) (l1 : List Nat) (hs : a.eval s = v) (hown : OwnI base w v l1)
    (A : Option Addr) (m c : Nat) (l2 : List Nat) (hx : a.eval x = .slice A m c) (hm : l2.length = m) (hr : RI w A l2)
    (hbytes : (l1.length + l2.length) * 8 ≤ 140737488355328) (hbase : base ≤ w.heap.size)
    (h : ∀ v' w', OwnI base w' v' (l1 ++ l2) → w.grownBy w' v.ownBlock → (v'.ownBlock = v.ownBlock ∨ v'.ownBlock = some w.heap.size) → wpList Try.prog ops Q rest (a.put o.dst v') w') :
    wpList Try.prog ops Q (o :: rest) a w := by
  subst hm
  refine wpList_app hgd s x 71 ho base 3 (.int .i64 0) 8 Try.underlying71 infoI rfl (by omega) v l1.length (l1.map vi) hs hown A l2.length c (l2.map vi) hx (by simp) (RV.of_RI hr) (vi_one l2) (by omega) hbase fun v' w' h2 h3 h4 => h v' w' ?_ h3 h4
  unfold OwnI
  rw [List.length_append, List.map_append]
  exact h2
theorem RI.one (w : World) (z : Int) (x : Nat) (hz : z = (x : Int)) : RI (w.alloc (.cells #[.int .i64 z] 3)) (some ⟨w.heap.size, 0, none⟩) [x] := by
  subst hz
  intro i hi
  obtain rfl : i = 0 := by simpa using hi
  exact ⟨w.heap.size, 0, rfl, by simp⟩

/-- The words of the first 2k bytes. -/
def wordAt (l : List UInt8) (k : Nat) : Nat := 256 * gb l (2 * k) + (if 2 * k + 1 < l.length then gb l (2 * k + 1) else 0)
def wordsL (l : List UInt8) (k : Nat) : List Nat := (List.range k).map (wordAt l)
theorem wordsL_succ (l : List UInt8) (k : Nat) : wordsL l (k + 1) = wordsL l k ++ [wordAt l k] := by simp [wordsL, List.range_succ]
theorem wordsL_length (l : List UInt8) (k : Nat) : (wordsL l k).length = k := by simp [wordsL]

set_option maxHeartbeats 2000000 in
theorem rwords_calls (A : Option Addr) (c : Nat) (l : List UInt8) (w : World) (h : RB w A l) (hl : l.length ≤ 8796093022208) :
    Calls Try.prog 51 #[.slice A l.length c] w fun e w' => ∃ v, e = .returned v ∧ OwnI w.heap.size w' v (wordsL l ((l.length + 1) / 2)) ∧ Below w.heap.size w w' := by
  have H := Lib.hid h
  clear h
  go_enter Try.func51, Try.ntmps51
  go_wp2
  go_loopw [3, 4] (fun v i w1 => ∃ k : Nat, 2 * k ≤ l.length + 1 ∧ i = .int .i64 (2 * (k : Int)) ∧ Hid (OwnI w.heap.size w1 v (wordsL l k)) ∧ Hid (Below w.heap.size w w1) ∧ w.heap.size ≤ w1.heap.size) (fun _ i _ => l.length + 1 - (intOf i).toNat)
  case atStart => exact ⟨0, Nat.zero_le _, rfl, OwnI.nil _ _, Below.refl _ _, Nat.le_refl _⟩
  case round =>
    obtain ⟨k, hk, rfl, HO, HB, hsz⟩ := hrel
    by_cases h1 : 2 * k < l.length
    · obtain ⟨b, o, rfl, hc⟩ := (H.out.ext HB.out) (2 * k) h1
      have hg := gb_lt l (2 * k)
      have hL : Hid ((wordsL l k).length = k) := wordsL_length l k
      by_cases h2 : 2 * k + 1 < l.length
      · obtain ⟨b', o', e', hc2⟩ := (H.out.ext HB.out) (2 * k + 1) h2
        cases e'
        have hg2 := gb_lt l (2 * k + 1)
        have hW : Hid (wordAt l k = 256 * gb l (2 * k) + gb l (2 * k + 1)) := by unfold wordAt; rw [if_pos h2]; exact Lib.hid rfl
        generalize gb l (2 * k) = x at *
        generalize gb l (2 * k + 1) = y at *
        go_wp2_with (at_builtin; refine wpList_appI rfl _ _ rfl w.heap.size _ _ rfl (HO.out.ext (ext_alloc _ _)) _ _ _ [256 * x + y] rfl rfl (RI.one _ _ _ (by omega)) (by rw [hL.out]; simp; omega) (by (try simp) <;> omega) ?_)
        intro v1 w1 ho hg1 _
        have hb := (HO.out.ext (ext_alloc _ _)).below (HB.out.alloc hsz _) hg1 (by (try simp) <;> omega)
        have hs := hb.size
        rw [← hW.out, ← wordsL_succ] at ho
        have HB1 := Lib.hid hb
        have HO1 := Lib.hid ho
        clear ho hb hg1
        go_wp2
        go_roundw
        case rel => exact ⟨k + 1, by omega, by go_num, HO1, HB1, hs⟩
        case measure => simp [intOf]; omega
      · have hW : Hid (wordAt l k = 256 * gb l (2 * k)) := by unfold wordAt; rw [if_neg h2]; exact Lib.hid rfl
        generalize gb l (2 * k) = x at *
        go_wp2_with (at_builtin; refine wpList_appI rfl _ _ rfl w.heap.size _ _ rfl (HO.out.ext (ext_alloc _ _)) _ _ _ [256 * x] rfl rfl (RI.one _ _ _ (by omega)) (by rw [hL.out]; simp; omega) (by (try simp) <;> omega) ?_)
        intro v1 w1 ho hg1 _
        have hb := (HO.out.ext (ext_alloc _ _)).below (HB.out.alloc hsz _) hg1 (by (try simp) <;> omega)
        have hs := hb.size
        rw [← hW.out, ← wordsL_succ] at ho
        have HB1 := Lib.hid hb
        have HO1 := Lib.hid ho
        clear ho hb hg1
        go_wp2
        go_roundw
        case rel => exact ⟨k + 1, by omega, by go_num, HO1, HB1, hs⟩
        case measure => simp [intOf]; omega
    · have hk2 : (l.length + 1) / 2 = k := by omega
      have HK := Lib.hid hk2
      clear hk2
      go_wp2
      go_ret
      exact ⟨_, rfl, by rw [HK.out]; exact HO.out, HB.out⟩

/-- The words of the first k parts. -/
def wordsTo2 (ls : List (List UInt8)) : Nat → List Nat
  | 0 => []
  | k + 1 => wordsTo2 ls k ++ wordsL (ls.getD k []) (((ls.getD k []).length + 1) / 2)
theorem wordsTo2_mono (ls : List (List UInt8)) (k d : Nat) : (wordsTo2 ls k).length ≤ (wordsTo2 ls (k + d)).length := by
  induction d with
  | zero => exact Nat.le_refl _
  | succ d ih => exact Nat.le_trans ih (by rw [← Nat.add_assoc]; simp [wordsTo2])
theorem wordAt_le (l : List UInt8) (k : Nat) : wordAt l k ≤ 65535 := by
  have := gb_lt l (2 * k); have := gb_lt l (2 * k + 1)
  unfold wordAt; split <;> omega
theorem wordsTo2_le (ls : List (List UInt8)) (k : Nat) : ∀ x ∈ wordsTo2 ls k, x ≤ 65535 := by
  induction k with
  | zero => intro x hx; cases hx
  | succ k ih =>
    intro x hx
    rcases List.mem_append.1 hx with hx | hx
    · exact ih x hx
    · obtain ⟨i, _, rfl⟩ := List.mem_map.1 hx
      exact wordAt_le _ _
theorem getD_le {l : List Nat} {B : Nat} (h : ∀ x ∈ l, x ≤ B) (i : Nat) : l.getD i 0 ≤ B := by
  rw [List.getD_eq_getElem?_getD]
  by_cases hi : i < l.length
  · rw [List.getElem?_eq_getElem hi]; exact h _ (List.getElem_mem hi)
  · rw [List.getElem?_eq_none (by omega)]; exact Nat.zero_le _
def rinetN (ls : List (List UInt8)) : Nat := 65535 - foldN (addTo (wordsTo2 ls ls.length) (wordsTo2 ls ls.length).length)

set_option maxHeartbeats 2000000 in
theorem rinet_calls (A : Option Addr) (c : Nat) (ls : List (List UInt8)) (w : World) (h : RBB w A ls) (hn : ls.length ≤ 140737488351232) (hl : ∀ i, i < ls.length → (ls.getD i []).length ≤ 8796093022208) (htot : (wordsTo2 ls ls.length).length ≤ 1000000000000) :
    Calls Try.prog 44 #[.slice A ls.length c] w fun e w' => e = .returned (.int .u16 (rinetN ls : Nat)) ∧ Below w.heap.size w w' := by
  have H := Lib.hid h
  clear h
  have HL := Lib.hid hl
  clear hl
  have HT := Lib.hid htot
  clear htot
  go_enter Try.func44, Try.ntmps44
  go_wp2
  go_loopw [3, 8] (fun v i w1 => ∃ k : Nat, k ≤ ls.length ∧ i = .int .i64 k ∧ Hid (OwnI w.heap.size w1 v (wordsTo2 ls k)) ∧ Hid (Below w.heap.size w w1) ∧ w.heap.size ≤ w1.heap.size) (fun _ i _ => ls.length - (intOf i).toNat)
  case atStart => exact ⟨0, Nat.zero_le _, rfl, OwnI.nil _ _, Below.refl _ _, Nat.le_refl _⟩
  case round =>
    obtain ⟨k, hk, rfl, HO, HB, hsz⟩ := hrel
    by_cases h1 : k < ls.length
    · obtain ⟨b, o, A', c', rfl, hc, hr, hl'⟩ := (H.out.ext HB.out) k h1
      have hlen := HL.out k h1
      have hs : Hid (wordsTo2 ls (k + 1) = wordsTo2 ls k ++ wordsL (ls.getD k []) (((ls.getD k []).length + 1) / 2)) := rfl
      have hm : Hid ((wordsTo2 ls k).length + (wordsL (ls.getD k []) (((ls.getD k []).length + 1) / 2)).length ≤ 1000000000000) := by
        have := wordsTo2_mono ls (k + 1) (ls.length - (k + 1))
        rw [show k + 1 + (ls.length - (k + 1)) = ls.length by omega, hs.out, List.length_append] at this
        exact Nat.le_trans this HT.out
      generalize ls.getD k [] = p at *
      have HR := Lib.hid hr
      clear hr hl'
      go_wp2_with fail
      refine (rwords_calls _ _ _ _ HR.out hlen).mono ?_
      rintro e w1 ⟨v1, rfl, ho, hb⟩
      have hb1 := HB.out.trans (hb.mono hsz)
      have hs1 := hb1.size
      have HO1 := Lib.hid (HO.out.ext hb)
      obtain ⟨A1, c1, rfl, hr1, hc1⟩ := ho.form
      have HR1 := Lib.hid hr1
      have HB1 := Lib.hid hb1
      clear ho hb hb1 hr1 hc1 HO HB HR
      generalize wordsL p ((p.length + 1) / 2) = q at *
      go_wp2_with (at_builtin; refine wpList_appI rfl _ _ rfl w.heap.size _ _ rfl HO1.out _ _ _ q rfl rfl HR1.out (by have := hm.out; omega) hs1 ?_)
      intro v2 w2 ho hg1 _
      have hb := HO1.out.below HB1.out hg1 hs1
      have hs2 := hb.size
      rw [← hs.out] at ho
      have HB2 := Lib.hid hb
      have HO2 := Lib.hid ho
      clear ho hb hg1 HB1 HO1 HR1
      go_wp2
      go_roundw
      case rel => exact ⟨k + 1, by omega, by go_num, HO2, HB2, hs2⟩
      case measure => simp [intOf]; omega
    · obtain rfl : k = ls.length := by omega
      have hf : Hid (rinetN ls = 65535 - foldN (addTo (wordsTo2 ls ls.length) (wordsTo2 ls ls.length).length)) := rfl
      have hx := getD_le (wordsTo2_le ls ls.length)
      obtain ⟨A1, c1, rfl, hr1, hc1⟩ := HO.out.form
      have HR1 := Lib.hid hr1
      clear hr1 hc1 HO
      have HX := Lib.hid hx
      clear hx
      generalize wordsTo2 ls ls.length = q at *
      have hle := foldN_le (addTo q q.length)
      go_wp2_with fail
      refine (radd_calls _ _ q _ HR1.out (by have := HT.out; omega) HX.out).mono ?_
      rintro e w1 ⟨rfl, rfl⟩
      go_wp2
      go_ret
      exact ⟨ret_int (by rw [hf.out]; omega), HB.out⟩

theorem foldN_congr {a b : Nat} (h : a % 65535 = b % 65535) (h0 : a = 0 ↔ b = 0) : foldN a = foldN b := by
  unfold foldN
  by_cases ha : a = 0
  · rw [if_pos ha, if_pos (h0.1 ha)]
  · rw [if_neg ha, if_neg (fun k => ha (h0.2 k))]
    have : b ≠ 0 := fun k => ha (h0.2 k)
    omega
theorem foldN_mod (n : Nat) : foldN n % 65535 = n % 65535 := by unfold foldN; split <;> omega
theorem foldN_zero (n : Nat) : foldN n = 0 ↔ n = 0 := by unfold foldN; split <;> omega
theorem gb_out (l : List UInt8) (i : Nat) (h : l.length ≤ i) : gb l i = 0 := by
  simp [gb, List.getD_eq_getElem?_getD, List.getElem?_eq_none h]
theorem wordAt_eq (l : List UInt8) (k : Nat) : wordAt l k = 256 * gb l (2 * k) + gb l (2 * k + 1) := by
  unfold wordAt
  split
  · rfl
  · rename_i h
    rw [gb_out l (2 * k + 1) (by omega)]
theorem wordsTo_two (l : List UInt8) (k : Nat) : wordsTo l (2 * (k + 1)) = wordsTo l (2 * k) + 256 * gb l (2 * k) + gb l (2 * k + 1) := by
  rw [show 2 * (k + 1) = 2 * k + 1 + 1 by omega]
  have h1 : wordsTo l (2 * k + 1 + 1) = wordsTo l (2 * k + 1) + (if (2 * k + 1) % 2 = 0 then gb l (2 * k + 1) * 256 else gb l (2 * k + 1)) := rfl
  have h2 : wordsTo l (2 * k + 1) = wordsTo l (2 * k) + (if (2 * k) % 2 = 0 then gb l (2 * k) * 256 else gb l (2 * k)) := rfl
  rw [h1, h2, if_neg (by omega : ¬ (2 * k + 1) % 2 = 0), if_pos (by omega : (2 * k) % 2 = 0)]
  omega
theorem wordsTo_out (l : List UInt8) (d : Nat) : wordsTo l (l.length + d) = wordsTo l l.length := by
  induction d with
  | zero => rfl
  | succ d ih =>
    rw [← Nat.add_assoc]
    simp only [wordsTo]
    rw [gb_out l _ (by omega), ih]
    simp
theorem sum_append (l m : List Nat) : (l ++ m).sum = l.sum + m.sum := by simp
theorem wordsL_sum (l : List UInt8) (k : Nat) : (wordsL l k).sum = wordsTo l (2 * k) := by
  induction k with
  | zero => rfl
  | succ k ih => rw [wordsL_succ, sum_append, ih, wordsTo_two, wordAt_eq]; simp; omega
theorem wordsL_all (l : List UInt8) : (wordsL l ((l.length + 1) / 2)).sum = wordsTo l l.length := by
  rw [wordsL_sum]
  obtain ⟨d, hd⟩ : ∃ d, 2 * ((l.length + 1) / 2) = l.length + d := ⟨2 * ((l.length + 1) / 2) - l.length, by omega⟩
  rw [hd, wordsTo_out]
theorem addTo_sum (l : List Nat) (k : Nat) (h : k ≤ l.length) : addTo l k = (l.take k).sum := by
  induction k with
  | zero => rfl
  | succ k ih =>
    rw [List.take_succ_eq_append_getElem (by omega), sum_append, ← ih (by omega)]
    simp [addTo, List.getD_eq_getElem?_getD, List.getElem?_eq_getElem (show k < l.length by omega)]
theorem inet_mod (ls : List (List UInt8)) (k : Nat) : inetTo ls k % 65535 = (wordsTo2 ls k).sum % 65535 ∧ (inetTo ls k = 0 ↔ (wordsTo2 ls k).sum = 0) := by
  induction k with
  | zero => simp [inetTo, wordsTo2]
  | succ k ih =>
    have h1 := foldN_mod (wordsTo (ls.getD k []) (ls.getD k []).length)
    have h2 := foldN_zero (wordsTo (ls.getD k []) (ls.getD k []).length)
    simp only [inetTo, wordsTo2, sum_append, wordsL_all]
    omega
theorem inet_eq (ls : List (List UInt8)) : inetN ls = rinetN ls := by
  unfold inetN rinetN
  rw [addTo_sum _ _ (Nat.le_refl _), List.take_length, foldN_congr (inet_mod ls ls.length).1 (inet_mod ls ls.length).2]

end Go.Proofs.Ytobkelpeenckeaa
