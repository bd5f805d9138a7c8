/- chunk: what is cut, plain; a cutter in memory; made, ends, Pending, Flush, New: the walks. -/
import Derived.Test.YtmohjgcnhibkoaaRollA
import Derived.Test.YtmohjgcnhibkoaaClone
import Derived.Deep.RegionWith
namespace Go.Proofs.Ytmohjgcnhibkoaa
open Go.RowKit
set_option linter.unusedVariables false
set_option linter.unusedSimpArgs false

/-! ### plain -/
def endsN (p : Nat) (l : List UInt8) : Bool := decide (256 ≤ l.length) || (decide (32 ≤ l.length) && decide (prN p (wnd l) % 64 = 63))
def stepC (p : Nat) (s : List (List UInt8) × List UInt8) (x : UInt8) : List (List UInt8) × List UInt8 := if endsN p (s.2 ++ [x]) = true then (s.1 ++ [s.2 ++ [x]], []) else (s.1, s.2 ++ [x])
/-- What is cut of the bytes b behind those that wait: the chunks that end, and what waits then. -/
def cutS (p : Nat) (pend b : List UInt8) : List (List UInt8) × List UInt8 := b.foldl (stepC p) ([], pend)
theorem cutS_nil (p : Nat) (pend : List UInt8) : cutS p pend [] = ([], pend) := rfl
theorem cutS_snoc (p : Nat) (pend b : List UInt8) (x : UInt8) : cutS p pend (b ++ [x]) = stepC p (cutS p pend b) x := by simp [cutS, List.foldl_append]
theorem snoc_ind {P : List UInt8 → Prop} (h0 : P []) (h : ∀ l x, P l → P (l ++ [x])) (l : List UInt8) : P l := by
  have : ∀ n (l : List UInt8), l.length = n → P l := by
    intro n
    induction n with
    | zero => intro l hl; rw [List.eq_nil_of_length_eq_zero hl]; exact h0
    | succ n ih =>
      intro l hl
      have hne : l ≠ [] := by intro e; rw [e] at hl; simp at hl
      rw [← List.dropLast_concat_getLast hne]
      exact h _ _ (ih _ (by rw [List.length_dropLast, hl]; rfl))
  exact this _ l rfl
theorem cutS_count (p : Nat) (pend b : List UInt8) : (cutS p pend b).1.length ≤ b.length := by
  induction b using snoc_ind with
  | h0 => exact Nat.le_refl _
  | h b x ih =>
    rw [cutS_snoc]
    unfold stepC
    split <;> simp <;> omega
theorem cutS_lt (p : Nat) (pend b : List UInt8) (h : pend.length < 256) : (cutS p pend b).2.length < 256 := by
  induction b using snoc_ind with
  | h0 => exact h
  | h b x ih =>
    rw [cutS_snoc]
    unfold stepC
    split
    · simp
    · rename_i hn
      simp only [endsN, Bool.or_eq_true, decide_eq_true_eq, not_or] at hn
      have := hn.1
      dsimp only
      omega
theorem cutS_join (p : Nat) (pend b : List UInt8) : (cutS p pend b).1.flatten ++ (cutS p pend b).2 = pend ++ b := by
  induction b using snoc_ind with
  | h0 => simp [cutS]
  | h b x ih =>
    rw [cutS_snoc, ← List.append_assoc, ← ih]
    unfold stepC
    split <;> simp [List.flatten_append]

/-! ### a cutter in memory -/
def ccs (v : Value) (r g : Nat) : List Value := [v, .pointer (some ⟨r, 0, none⟩), .pointer (some ⟨g, 0, none⟩)]
theorem own_ne_bk {w : World} {B e n k t : Nat} {v : Value} {xs cs : List Value} (h : w.ownsRow B e 1 v n xs) (hk : BK w k t cs) (hne : e ≠ t) : v.ownBlock ≠ some k := by
  rcases h.2 with ⟨rfl, _⟩ | ⟨g, cap, cur, rfl, _, hg, _⟩
  · exact fun e => by cases e
  · intro e1
    have : g = k := Option.some.inj e1
    subst this
    have := hg.symm.trans hk
    injection this with this
    injection this with _ this
    exact hne this
theorem own_ne_own {w : World} {B B' e e' n n' : Nat} {v v' : Value} {xs xs' : List Value} (h : w.ownsRow B e 1 v n xs) (h' : w.ownsRow B' e' 1 v' n' xs') (hne : e ≠ e') : v.ownBlock = none ∨ v.ownBlock ≠ v'.ownBlock := by
  rcases h.2 with ⟨rfl, _⟩ | ⟨g, cap, cur, rfl, _, hg, _⟩
  · exact .inl rfl
  · refine .inr fun e1 => ?_
    rcases h'.2 with ⟨rfl, _⟩ | ⟨g', cap', cur', rfl, _, hg', _⟩
    · cases e1
    · have : g = g' := Option.some.inj e1
      subst this
      have := hg.symm.trans hg'
      injection this with this
      injection this with _ this
      exact hne this
theorem bk_ne {w : World} {k r t t' : Nat} {cs cs' : List Value} (h : BK w k t cs) (h' : BK w r t' cs') (hne : t ≠ t') : k ≠ r := by
  rintro rfl
  have := h.symm.trans h'
  injection this with this
  injection this with _ this
  exact hne this
/-- A cutter at k, over the roller at r and the table at g; L: all that its roller has rolled over; pend: what waits, in memory of its own (v). -/
structure CutIs (B : Nat) (w : World) (k r g q : Nat) (v : Value) (L pend : List UInt8) : Prop where
  c : BK w k 39 (ccs v r g)
  o : OwnB B 5 w v pend
  roll : RollOf w r g q L
  tab : TabFull w g q
section
variable {B : Nat} {w w' : World} {k r g q : Nat} {v : Value} {L pend : List UInt8}
theorem CutIs.rb (h : CutIs B w k r g q v L pend) : ∃ cs, BK w r 91 cs := by
  obtain ⟨last, h1, _⟩ := h.roll
  exact ⟨_, h1.1⟩
theorem CutIs.kr (h : CutIs B w k r g q v L pend) : k ≠ r := by
  obtain ⟨cs, hr⟩ := h.rb
  exact bk_ne h.c hr (by decide)
theorem CutIs.gr (h : CutIs B w k r g q v L pend) : g ≠ r := by
  obtain ⟨cs, hr⟩ := h.rb
  exact bk_ne h.tab hr (by decide)
theorem CutIs.gk (h : CutIs B w k r g q v L pend) : g ≠ k := bk_ne h.tab h.c (by decide)
theorem CutIs.vk (h : CutIs B w k r g q v L pend) : v.ownBlock ≠ some k := own_ne_bk h.o h.c (by decide)
theorem CutIs.vr (h : CutIs B w k r g q v L pend) : v.ownBlock ≠ some r := by
  obtain ⟨cs, hr⟩ := h.rb
  exact own_ne_bk h.o hr (by decide)
theorem CutIs.vg (h : CutIs B w k r g q v L pend) : v.ownBlock ≠ some g := own_ne_bk h.o h.tab (by decide)
theorem CutIs.kept {row : Option Nat} (h : CutIs B w k r g q v L pend) (e : w.grownBy w' row) (h1 : row ≠ some k) (h2 : row ≠ some r) (h3 : row ≠ some g) (h4 : v.ownBlock = none ∨ v.ownBlock ≠ row) : CutIs B w' k r g q v L pend :=
  ⟨h.c.same (e.block k h.c.lt (Ne.symm h1)), h.o.other e h4, h.roll.same (e.block r h.roll.lt (Ne.symm h2)), BK.same h.tab (e.block g h.tab.lt (Ne.symm h3))⟩
theorem CutIs.ext (h : CutIs B w k r g q v L pend) (e : Below w.heap.size w w') : CutIs B w' k r g q v L pend :=
  h.kept (grown_of_below e none) (fun e => by cases e) (fun e => by cases e) (fun e => by cases e) (by cases v.ownBlock <;> simp)
/-- Its field b anew. -/
theorem CutIs.setv (h : CutIs B w k r g q v L pend) {v' : Value} {p' : List UInt8} (ho : OwnB B 5 w v' p') : CutIs B (w.setCell ⟨k, 0, none⟩ v') k r g q v' L p' := by
  have hg := grown_setCell w k 0 v'
  have hk : v'.ownBlock ≠ some k := own_ne_bk ho h.c (by decide)
  exact ⟨h.c.set 0 v', ho.other hg (.inr hk), h.roll.same (hg.block r h.roll.lt (fun e => h.kr (Option.some.inj e).symm)), BK.same h.tab (hg.block g h.tab.lt (fun e => h.gk (Option.some.inj e)))⟩
/-- Another row of the same kind took the pending bytes' place in memory. -/
theorem CutIs.grew (h : CutIs B w k r g q v L pend) {v' : Value} {p' : List UInt8} (e : w.grownBy w' v.ownBlock) (ho : OwnB B 5 w' v' p') : CutIs B (w'.setCell ⟨k, 0, none⟩ v') k r g q v' L p' := by
  have hc := h.c.same (e.block k h.c.lt (Ne.symm h.vk))
  have hr := h.roll.same (e.block r h.roll.lt (Ne.symm h.vr))
  have ht : TabFull w' g q := BK.same h.tab (e.block g h.tab.lt (Ne.symm h.vg))
  have hg := grown_setCell w' k 0 v'
  have hk : v'.ownBlock ≠ some k := own_ne_bk ho hc (by decide)
  exact ⟨hc.set 0 v', ho.other hg (.inr hk), hr.same (hg.block r hr.lt (fun e => h.kr (Option.some.inj e).symm)), BK.same ht (hg.block g ht.lt (fun e => h.gk (Option.some.inj e)))⟩
end
/-- What changed: only the blocks of S, and new ones. -/
structure Chg (w w' : World) (S : List Nat) : Prop where
  os : w'.os = w.os
  tape : w'.tape = w.tape
  output : w'.output = w.output
  size : w.heap.size ≤ w'.heap.size
  block : ∀ i, i < w.heap.size → i ∉ S → w'.heap[i]? = w.heap[i]?
theorem Chg.refl (w : World) (S : List Nat) : Chg w w S := ⟨rfl, rfl, rfl, Nat.le_refl _, fun _ _ _ => rfl⟩
theorem Chg.step {w w1 w2 : World} {S : List Nat} {row : Option Nat} (h : Chg w w1 S) (e : w1.grownBy w2 row) (hr : ∀ x, row = some x → x ∈ S ∨ w.heap.size ≤ x) : Chg w w2 S :=
  ⟨e.os.trans h.os, e.tape.trans h.tape, e.output.trans h.output, Nat.le_trans h.size e.size, fun i hi hn => (e.block i (Nat.lt_of_lt_of_le hi h.size) (fun k => by rcases hr i k.symm with a | a; exact hn a; omega)).trans (h.block i hi hn)⟩
theorem Chg.below {B : Nat} {w w' : World} {S : List Nat} (h : Chg w w' S) (hB : B ≤ w.heap.size) (hS : ∀ x ∈ S, B ≤ x) : Below B w w' :=
  ⟨h.os, h.tape, h.output, h.size, fun i hi => h.block i (by omega) (fun k => by have := hS i k; omega)⟩
theorem Chg.rb {w w' : World} {S : List Nat} {A : Option Addr} {l : List UInt8} (h : Chg w w' S) (hr : RB w A l) (ho : 0 < l.length → ∀ b o, A = some ⟨b, o, none⟩ → b ∉ S) : RB w' A l := fun i hi => by
  obtain ⟨b, o, rfl, hc⟩ := hr i hi
  exact ⟨b, o, rfl, (World.cell?_of_block (h.block b (World.block_lt_of_cell? w _ hc) (ho (by omega) b o rfl))).trans hc⟩

/-! ### the small walks -/
theorem made_nil (w : World) : Calls Try.prog 29 #[.pointer none] w fun e w' => e = .returned (.bool false) ∧ w = w' := by
  go_enter Try.func29, Try.ntmps29
  go_wp2
  go_ret
  exact ⟨rfl, rfl⟩
theorem made_unmade (k : Nat) (w : World) (h : w.cell? ⟨k, 2, none⟩ = some (.pointer none)) : Calls Try.prog 29 #[.pointer (some ⟨k, 0, none⟩)] w fun e w' => e = .returned (.bool false) ∧ w = w' := by
  go_enter Try.func29, Try.ntmps29
  go_wp2
  go_ret
  exact ⟨rfl, rfl⟩
theorem made_calls (k g : Nat) (w : World) (h : w.cell? ⟨k, 2, none⟩ = some (.pointer (some ⟨g, 0, none⟩))) : Calls Try.prog 29 #[.pointer (some ⟨k, 0, none⟩)] w fun e w' => e = .returned (.bool true) ∧ w = w' := by
  go_enter Try.func29, Try.ntmps29
  go_wp2
  go_ret
  exact ⟨rfl, rfl⟩
theorem and_63 (f : Nat) (h : f < 18446744073709551616) : bits .and .u64 (f : Int) 63 = ((f % 64 : Nat) : Int) := by
  rw [show (63 : Int) = ((63 : Nat) : Int) from rfl, and_u64 _ _ h (by decide)]
  congr 1
  exact Nat.and_two_pow_sub_one_eq_mod f 6
set_option maxRecDepth 100000 in
theorem ends_calls (n f : Nat) (hn : n ≤ 1000) (hf : f < 18446744073709551616) (w : World) :
    Calls Try.prog 30 #[.int .i64 (n : Int), .int .u64 (f : Int)] w fun e w' => e = .returned (.bool (decide (256 ≤ n) || (decide (32 ≤ n) && decide (f % 64 = 63)))) ∧ w = w' := by
  have e1 := and_63 f hf
  obtain ⟨m, hm⟩ : ∃ m, f % 64 = m := ⟨_, rfl⟩
  rw [hm] at e1
  rw [hm]
  clear hm
  by_cases h1 : 256 ≤ n
  · go_enter Try.func30, Try.ntmps30
    go_wp2
    go_ret
    exact ⟨by simp [h1], rfl⟩
  by_cases h2 : 32 ≤ n
  · by_cases h3 : m = 63
    · subst h3
      go_enter Try.func30, Try.ntmps30
      go_wp2
      go_ret
      exact ⟨by simp [h1, h2] <;> omega, rfl⟩
    · have d3 : ((m : Int) == 63) = false := beq_eq_false_iff_ne.2 (by omega)
      go_enter Try.func30, Try.ntmps30
      go_wp2
      go_ret
      exact ⟨by simp [h1, h2, h3] <;> omega, rfl⟩
  · go_enter Try.func30, Try.ntmps30
    go_wp2
    go_ret
    exact ⟨by simp [h1, h2] <;> omega, rfl⟩
theorem pending_nil (w : World) : Calls Try.prog 17 #[.pointer none] w fun e w' => e = .returned (.int .i64 0) ∧ w = w' := by
  go_enter Try.func17, Try.ntmps17
  go_wp2_with fail
  refine (made_nil w).mono ?_
  rintro e w' ⟨rfl, rfl⟩
  go_wp2
  go_ret
  exact ⟨rfl, rfl⟩
theorem pending_unmade (k : Nat) (w : World) (h : w.cell? ⟨k, 2, none⟩ = some (.pointer none)) : Calls Try.prog 17 #[.pointer (some ⟨k, 0, none⟩)] w fun e w' => e = .returned (.int .i64 0) ∧ w = w' := by
  go_enter Try.func17, Try.ntmps17
  go_wp2_with fail
  refine (made_unmade k w h).mono ?_
  rintro e w' ⟨rfl, rfl⟩
  go_wp2
  go_ret
  exact ⟨rfl, rfl⟩
theorem pending_calls {B : Nat} {w : World} {k r g q : Nat} {v : Value} {L pend : List UInt8} (h : CutIs B w k r g q v L pend) :
    Calls Try.prog 17 #[.pointer (some ⟨k, 0, none⟩)] w fun e w' => e = .returned (.int .i64 (pend.length : Int)) ∧ w = w' := by
  have c0 : w.cell? ⟨k, 0, none⟩ = some v := h.c.cell rfl
  have c2 : w.cell? ⟨k, 2, none⟩ = some (.pointer (some ⟨g, 0, none⟩)) := h.c.cell rfl
  obtain ⟨A, c, rfl, _, _, _⟩ := h.o.form
  clear h
  go_enter Try.func17, Try.ntmps17
  go_wp2_with fail
  refine (made_calls k g w c2).mono ?_
  rintro e w' ⟨rfl, rfl⟩
  go_wp2
  go_ret
  exact ⟨rfl, rfl⟩
theorem flush_nil (w : World) : Calls Try.prog 18 #[.pointer none] w fun e w' => e = .returned (.slice none 0 0) ∧ w = w' := by
  go_enter Try.func18, Try.ntmps18
  go_wp2_with fail
  refine (made_nil w).mono ?_
  rintro e w' ⟨rfl, rfl⟩
  go_wp2
  go_ret
  exact ⟨rfl, rfl⟩
theorem flush_unmade (k : Nat) (w : World) (h : w.cell? ⟨k, 2, none⟩ = some (.pointer none)) : Calls Try.prog 18 #[.pointer (some ⟨k, 0, none⟩)] w fun e w' => e = .returned (.slice none 0 0) ∧ w = w' := by
  go_enter Try.func18, Try.ntmps18
  go_wp2_with fail
  refine (made_unmade k w h).mono ?_
  rintro e w' ⟨rfl, rfl⟩
  go_wp2
  go_ret
  exact ⟨rfl, rfl⟩
theorem flush_calls {B : Nat} {w : World} {k r g q : Nat} {v : Value} {L pend : List UInt8} (h : CutIs B w k r g q v L pend) (hl : pend.length ≤ 256) :
    Calls Try.prog 18 #[.pointer (some ⟨k, 0, none⟩)] w fun e w' => ∃ u, e = .returned u ∧ OwnB w.heap.size 5 w' u pend ∧ CutIs B w' k r g q (.slice none 0 0) L [] ∧ w.grownBy w' (some k) := by
  have H := Lib.hid h
  have c0 : w.cell? ⟨k, 0, none⟩ = some v := h.c.cell rfl
  have c2 : w.cell? ⟨k, 2, none⟩ = some (.pointer (some ⟨g, 0, none⟩)) := h.c.cell rfl
  obtain ⟨A, c, rfl, hr, _, _⟩ := h.o.form
  have HR := Lib.hid hr
  clear h hr
  go_enter Try.func18, Try.ntmps18
  go_wp2_with fail
  refine (made_calls k g w c2).mono ?_
  rintro e w' ⟨rfl, rfl⟩
  go_wp2_with fail
  refine (clone_calls A c pend w HR.out (by omega)).mono ?_
  rintro e w2 ⟨u, rfl, ho, hb⟩
  have HO := Lib.hid ho
  have HB := Lib.hid hb
  have H2 := Lib.hid (H.out.ext hb)
  have c3 : w2.cell? ⟨k, 0, none⟩ = some (.slice A pend.length c) := H2.out.c.cell rfl
  have z3 : w2.frozen? ⟨k, 0, none⟩ = false := H2.out.c.frozen 0
  clear ho hb c0 c2
  go_wp2
  go_ret
  have hg := grown_setCell w2 k 0 (.slice none 0 0)
  refine ⟨u, rfl, HO.out.other hg (.inr ?_), H2.out.setv (OwnB.nil _ _ _), grown_trans (grown_of_below HB.out _) hg⟩
  exact own_ne_bk HO.out H2.out.c (by decide)
theorem cnew_nil (w : World) : Calls Try.prog 15 #[.pointer none] w fun e w' => e = .returned (.pointer none) ∧ w = w' := by
  go_enter Try.func15, Try.ntmps15
  go_wp2_with fail
  refine (poly_nil w).mono ?_
  rintro e w' ⟨rfl, rfl⟩
  go_wp2
  go_ret
  exact ⟨rfl, rfl⟩
theorem cnew_unmade (g : Nat) (w : World) (h : w.cell? ⟨g, 515, none⟩ = some (.int .u64 0)) : Calls Try.prog 15 #[.pointer (some ⟨g, 0, none⟩)] w fun e w' => e = .returned (.pointer none) ∧ w = w' := by
  go_enter Try.func15, Try.ntmps15
  go_wp2_with fail
  refine (poly_calls g 0 w h).mono ?_
  rintro e w' ⟨rfl, rfl⟩
  go_wp2
  go_ret
  exact ⟨rfl, rfl⟩
theorem cnew_calls (B g q : Nat) (hq : bl q = 32) (w : World) (hT : TabIs w g q) :
    Calls Try.prog 15 #[.pointer (some ⟨g, 0, none⟩)] w fun e w' => ∃ k r, e = .returned (.pointer (some ⟨k, 0, none⟩)) ∧ w.heap.size ≤ k ∧ w.heap.size ≤ r ∧ CutIs B w' k r g q (.slice none 0 0) [] [] ∧ w.grownBy w' (some g) := by
  have HT := Lib.hid hT
  have HQ := Lib.hid hq
  have d0 : ((q : Int) == 0) = false := by
    rw [beq_eq_false_iff_ne]
    intro e
    have : q = 0 := by omega
    rw [this, bl_zero] at hq
    omega
  have hc := hT.poly
  clear hT hq
  go_enter Try.func15, Try.ntmps15
  go_wp2_with fail
  refine (poly_calls g q w hc).mono ?_
  rintro e w' ⟨rfl, rfl⟩
  go_wp2_with fail
  refine (roll_calls g q HQ.out w HT.out).mono ?_
  rintro e w2 ⟨r, rfl, hr, hR, hF, hg⟩
  have HR := Lib.hid (RollOf.start hR (pr_zs16 q))
  have HF := Lib.hid hF
  have HG := Lib.hid hg
  clear hR hF hg hc
  go_wp2
  go_ret
  exact ⟨w2.heap.size, r, rfl, HG.out.size, hr, ⟨BK.new w2 39 (ccs (.slice none 0 0) r g), OwnB.nil _ _ _, HR.out.ext (ext_alloc w2 _), HF.out.ext (ext_alloc w2 _)⟩, grown_trans HG.out (grown_of_below (ext_alloc w2 _) _)⟩
end Go.Proofs.Ytmohjgcnhibkoaa
