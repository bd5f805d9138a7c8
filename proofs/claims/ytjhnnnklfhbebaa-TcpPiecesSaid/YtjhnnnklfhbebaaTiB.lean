/- flumelaw13's pair: in memory; out: the walk (region 7 printed by gen.py, spec ou7). -/
import Derived.Test.YtjhnnnklfhbebaaTiA
import Derived.Test.YtjhnnnklfhbebaaRowTcp
namespace Go.Proofs.Ytjhnnnklfhbebaa
open Go.RowKit
set_option linter.unusedVariables false
set_option linter.unusedSimpArgs false
def fset {α : Type} (f : Nat → α) (i : Nat) (x : α) : Nat → α := fun j => if j = i then x else f j
theorem fset_at {α : Type} (f : Nat → α) (i : Nat) (x : α) : fset f i x i = x := if_pos rfl
theorem fset_no {α : Type} (f : Nat → α) {i j : Nat} (x : α) (h : j ≠ i) : fset f i x j = f j := if_neg h
/-- Two endpoints, what is on its way to each, and what was written and read. -/
structure PS where
  c : Nat → TS
  bag : Nat → List Pk
  wr : Nat → List UInt8
  rd : Nat → List UInt8
  iss : Nat
/-- Where it stands. -/
structure PV where
  k : Nat → Option Nat
  v : Nat → Value
  b : Nat → Value
  w : Nat → Value
  r : Nat → Value
def pCells (P : PS) (V : PV) : List Value := [ptr (V.k 0), ptr (V.k 1), .int .u32 (P.iss : Int), V.b 0, V.b 1, V.w 0, V.w 1, V.r 0, V.r 1]
def pItems (g : Nat) (P : PS) (V : PV) : List Item :=
  [Item.bk g 53 (pCells P V), Item.side (V.k 0) (P.c 0) (V.v 0), Item.side (V.k 1) (P.c 1) (V.v 1), Item.row (V.b 0) (P.bag 0), Item.row (V.b 1) (P.bag 1), Item.bytes (V.w 0) (P.wr 0), Item.bytes (V.w 1) (P.wr 1), Item.bytes (V.r 0) (P.rd 0), Item.bytes (V.r 1) (P.rd 1)]
section
variable {g : Nat} {P : PS} {V : PV} {i : Nat}
theorem two_cases (h : i < 2) : i = 0 ∨ i = 1 := by omega
theorem p_bk : (pItems g P V)[0]? = some (Item.bk g 53 (pCells P V)) := rfl
theorem p_side (h : i < 2) : (pItems g P V)[1 + i]? = some (Item.side (V.k i) (P.c i) (V.v i)) := by rcases two_cases h with rfl | rfl <;> rfl
theorem p_row (h : i < 2) : (pItems g P V)[3 + i]? = some (Item.row (V.b i) (P.bag i)) := by rcases two_cases h with rfl | rfl <;> rfl
theorem p_wr (h : i < 2) : (pItems g P V)[5 + i]? = some (Item.bytes (V.w i) (P.wr i)) := by rcases two_cases h with rfl | rfl <;> rfl
theorem p_rd (h : i < 2) : (pItems g P V)[7 + i]? = some (Item.bytes (V.r i) (P.rd i)) := by rcases two_cases h with rfl | rfl <;> rfl
theorem p_set_side (h : i < 2) (s : TS) (v : Value) : (pItems g P V).set (1 + i) (Item.side (V.k i) s v) = pItems g { P with c := fset P.c i s } { V with v := fset V.v i v } := by rcases two_cases h with rfl | rfl <;> rfl
theorem p_set_row (h : i < 2) (v : Value) (ps : List Pk) : ((pItems g P V).set (3 + i) (Item.row v ps)).set 0 (Item.bk g 53 ((pCells P V).set (3 + i) v)) = pItems g { P with bag := fset P.bag i ps } { V with b := fset V.b i v } := by rcases two_cases h with rfl | rfl <;> rfl
theorem p_set_wr (h : i < 2) (v : Value) (ps : List UInt8) : ((pItems g P V).set (5 + i) (Item.bytes v ps)).set 0 (Item.bk g 53 ((pCells P V).set (5 + i) v)) = pItems g { P with wr := fset P.wr i ps } { V with w := fset V.w i v } := by rcases two_cases h with rfl | rfl <;> rfl
theorem p_set_rd (h : i < 2) (v : Value) (ps : List UInt8) : ((pItems g P V).set (7 + i) (Item.bytes v ps)).set 0 (Item.bk g 53 ((pCells P V).set (7 + i) v)) = pItems g { P with rd := fset P.rd i ps } { V with r := fset V.r i v } := by rcases two_cases h with rfl | rfl <;> rfl
theorem c_ptr (h : i < 2) : (pCells P V)[i]? = some (ptr (V.k i)) := by rcases two_cases h with rfl | rfl <;> rfl
theorem c_row (h : i < 2) : (pCells P V)[3 + i]? = some (V.b i) := by rcases two_cases h with rfl | rfl <;> rfl
theorem c_wr (h : i < 2) : (pCells P V)[5 + i]? = some (V.w i) := by rcases two_cases h with rfl | rfl <;> rfl
theorem c_rd (h : i < 2) : (pCells P V)[7 + i]? = some (V.r i) := by rcases two_cases h with rfl | rfl <;> rfl
end
/-- A block that is known whole is written. -/
theorem All.setBk {N : Nat → Prop} {l : List Item} {w : World} {j g : Nat} {t : TypeId} {cs : List Value} (h : All N l w) (hj : l[j]? = some (Item.bk g t cs)) (o : Nat) (v : Value) : All N (l.set j (Item.bk g t (cs.set o v))) (w.setCell ⟨g, o, none⟩ v) := by
  have hk := h.get j hj
  exact h.set j hj (Item.bk g t (cs.set o v)) ((grown_only (grown_setCell w g o v)).wide fun b _ e => (Option.some.inj e).symm) (fun b hb => .inl hb) ⟨hk.1.set o v, hk.2⟩
theorem bk_only {w : World} {g o : Nat} {v : Value} : Only (fun b => b = g) w (w.setCell ⟨g, o, none⟩ v) := (grown_only (grown_setCell w g o v)).wide fun b _ e => (Option.some.inj e).symm
/-- Packets put to others, as long as there are not too many. -/
def addBag (b : List Pk) (ps : List Pk) : List Pk := ps.foldl (fun b x => if b.length < 300 then b ++ [x] else b) b
theorem addBag_snoc (b : List Pk) (ps : List Pk) (x : Pk) : addBag b (ps ++ [x]) = if (addBag b ps).length < 300 then addBag b ps ++ [x] else addBag b ps := by
  unfold addBag
  rw [List.foldl_append]
  rfl
theorem addBag_le (b : List Pk) (hb : b.length ≤ 300) : ∀ ps : List Pk, (addBag b ps).length ≤ 300 := by
  intro ps
  induction ps generalizing b with
  | nil => exact hb
  | cons x r ih =>
    show (addBag (if b.length < 300 then b ++ [x] else b) r).length ≤ 300
    apply ih
    split
    · rw [List.length_append, List.length_singleton]
      omega
    · exact hb
namespace PS
def outI (P : PS) (i : Nat) : PS := { P with c := fset P.c i (P.c i).outp.2, bag := fset P.bag (1 - i) (addBag (P.bag (1 - i)) (P.c i).outp.1) }
def out (P : PS) : PS := (P.outI 0).outI 1
end PS
/-- A row with one packet more. -/
theorem row_append {N M : Nat → Prop} {w : World} {l : List Item} {j : Nat} {v v' : Value} {ps : List Pk} {p : Pk} {A : Option Addr} {n c : Nat} (h : All N l w) (hj : l[j]? = some (Item.row v ps)) {xs : List Value} (hp : PkRow (fun b => oth N l j b ∨ v.ownBlock = some b) w ps xs)
    (hn : p.data.length = n) (hd : SlN (fun b => oth N l j b ∨ v.ownBlock = some b) w (.slice A n c) p.data) (hi : TS.PkIn p) {W W' : World} (hw : Only (fun b => v.ownBlock = some b) w W) (hx : W'.ownsRow 0 32 11 v' (ps.length + 1) (xs ++ p.cs A n c)) (hg : W.grownBy W' v.ownBlock)
    (hv : v'.ownBlock = v.ownBlock ∨ v'.ownBlock = some W.heap.size) : All N (l.set j (Item.row v' (ps ++ [p]))) W' ∧ Only (fun b => v.ownBlock = some b) w W' := by
  have hrow := h.get j hj
  have hW : Only (fun b => v.ownBlock = some b) w W' := hw.trans (grown_only hg) fun b hb => .inl hb
  have hob : ∀ b, v'.ownBlock = some b → v.ownBlock = some b ∨ w.heap.size ≤ b := fun b hb => by
    rcases hv with e | e
    · exact .inl (e ▸ hb)
    · rw [e] at hb
      have := Option.some.inj hb
      have := hw.size
      exact .inr (by omega)
  refine ⟨h.set j hj (Item.row v' (ps ++ [p])) hW (fun b hb => hob b hb) ⟨⟨xs ++ p.cs A n c, by rw [List.length_append, List.length_singleton]; exact hx, ?_⟩, fun b hb => ?_⟩, hW⟩
  · have e : p.cs A n c = p.cs A p.data.length c := by rw [hn]
    rw [e]
    have hfr : ∀ i, i < w.heap.size → ¬ (oth N l j i ∨ v.ownBlock = some i) → W'.heap[i]? = w.heap[i]? := fun i hi hn => hW.block i hi fun e => hn (.inr e)
    have hwk : ∀ b, b < w.heap.size → (oth N l j b ∨ v'.ownBlock = some b) → oth N l j b ∨ v.ownBlock = some b := fun b hb hx => hx.imp id fun e => (hob b e).elim id (fun e => by omega)
    have hp2 : PkRow (fun b => (oth N l j b ∨ v.ownBlock = some b) ∨ (oth N l j b ∨ v'.ownBlock = some b)) w ps xs := hp.weaken fun b hb hx => hx.elim id (hwk b hb)
    have hd2 : SlN (fun b => (oth N l j b ∨ v.ownBlock = some b) ∨ (oth N l j b ∨ v'.ownBlock = some b)) w (.slice A n c) p.data := hd.weaken fun b hb hx => hx.elim id (hwk b hb)
    have hfr2 : ∀ i, i < w.heap.size → ¬ ((oth N l j i ∨ v.ownBlock = some i) ∨ (oth N l j i ∨ v'.ownBlock = some i)) → W'.heap[i]? = w.heap[i]? := fun i hi hn => hfr i hi fun e => hn (.inl e)
    refine PkRow.snoc ?_ hi.1 hi.2 ((hp2.fr hfr2).weaken fun b _ hx => .inr hx)
    rw [hn]
    exact (hd2.fr hfr2).weaken fun b _ hx => .inr hx
  · rcases hob b hb with e | e
    · exact hrow.2 b e
    · intro hn
      have := h.hN j b hn
      omega
/-- The packet of one row, for another one. -/
theorem row_for {N : Nat → Prop} {w : World} {l : List Item} {i j : Nat} {v u : Value} {ps qs : List Pk} (h : All N l w) (hij : i ≠ j) (hi : l[i]? = some (Item.row u qs)) (hj : l[j]? = some (Item.row v ps)) {p : Pk} {A : Option Addr} {n c g m : Nat} (hat : PkAt (oth N l i) w u g m p A n c) : SlN (fun b => oth N l j b ∨ v.ownBlock = some b) w (.slice A n c) p.data := by
  have hi2 := h.get i hi
  refine ⟨A, c, by rw [hat.len], by rw [hat.len]; exact hat.cap, hat.cmax, hat.rb, fun h0 b o e hb => ?_⟩
  have h0' : 0 < n := by rw [← hat.len]; exact h0
  obtain ⟨h1, h2⟩ := hat.off h0' b o e
  rcases hb with (hb | ⟨k, K, h3, h4, hb⟩) | hb
  · exact h1 (.inl hb)
  · by_cases hki : k = i
    · subst hki
      rw [hi] at h4
      cases h4
      exact h2 hb
    · exact h1 (.inr ⟨k, K, hki, h4, hb⟩)
  · exact h1 (.inr ⟨j, _, fun e => hij e.symm, hj, hb⟩)
/-- Some things in memory become others, and nothing else is another. -/
structure Goes (N : Nat → Prop) (l : List Item) (w : World) (l' : List Item) (w' : World) : Prop where
  all : All N l' w'
  only : Only (anyOwn l) w w'
  own : ∀ b, anyOwn l' b → anyOwn l b ∨ w.heap.size ≤ b
section
variable {N : Nat → Prop} {l l1 l2 : List Item} {w w1 w2 : World} {j : Nat}
theorem Goes.refl (h : All N l w) : Goes N l w l w := ⟨h, Only.refl _ _, fun b hb => .inl hb⟩
theorem Goes.trans (h : Goes N l w l1 w1) (k : Goes N l1 w1 l2 w2) : Goes N l w l2 w2 := ⟨k.all, h.only.trans k.only h.own, fun b hb => (k.own b hb).elim (h.own b) fun e => .inr (Nat.le_trans h.only.size e)⟩
theorem Goes.ext (h : Goes N l w l1 w1) (hb : Below w1.heap.size w1 w2) : Goes N l w l1 w2 := h.trans ⟨h.all.ext hb, Only.of_below hb, fun b hb => .inl hb⟩
theorem any_set {I' : Item} (hj : ∃ I, l[j]? = some I) {b : Nat} (h : anyOwn (l.set j I') b) : I'.own b ∨ anyOwn l b := by
  obtain ⟨i, I, hi, hb⟩ := h
  obtain ⟨J, hJ⟩ := hj
  by_cases e : i = j
  · subst e
    rw [getElem?_set_at I' hJ] at hi
    cases hi
    exact .inl hb
  · rw [getElem?_set_ne I' e] at hi
    exact .inr ⟨i, I, hi, hb⟩
theorem any_snoc {K : Item} {b : Nat} (h : anyOwn (l ++ [K]) b) : anyOwn l b ∨ K.own b := by
  obtain ⟨i, I, hi, hb⟩ := h
  rcases get_snoc hi with e | ⟨_, e⟩
  · exact .inl ⟨i, I, e, hb⟩
  · exact .inr (e ▸ hb)
theorem Goes.set {I I' : Item} (hj : l[j]? = some I) (ha : All N (l.set j I') w1) (hw : Only I.own w w1) (ho : ∀ b, I'.own b → I.own b ∨ w.heap.size ≤ b) : Goes N l w (l.set j I') w1 :=
  ⟨ha, hw.wide fun b _ hb => ⟨j, I, hj, hb⟩, fun b hb => (any_set ⟨I, hj⟩ hb).elim (fun e => (ho b e).imp (fun e => ⟨j, I, hj, e⟩) id) .inl⟩
theorem Goes.did {kb : Option Nat} {s s' : TS} {vp v : Value} (hj : l[j]? = some (Item.side kb s vp)) {e : Ending} (hd : DidJ N l w j kb vp s s' v e w1) : e = .returned v ∧ ∃ vp', Goes N l w (l.set j (Item.side kb s' vp')) w1 := by
  obtain ⟨rfl, ho, vp', ha, hown⟩ := hd
  exact ⟨rfl, vp', Goes.set hj ha ho hown⟩
theorem Goes.snoc {I I' K : Item} (hj : l[j]? = some I) (ha : All N (l.set j I' ++ [K]) w1) (hw : Only I.own w w1) (ho : ∀ b, I'.own b → I.own b ∨ w.heap.size ≤ b) (hk : ∀ b, K.own b → I.own b ∨ w.heap.size ≤ b) : Goes N l w (l.set j I' ++ [K]) w1 :=
  ⟨ha, hw.wide fun b _ hb => ⟨j, I, hj, hb⟩, fun b hb => (any_snoc hb).elim (fun e => (any_set ⟨I, hj⟩ e).elim (fun e => (ho b e).imp (fun e => ⟨j, I, hj, e⟩) id) .inl) fun e => (hk b e).imp (fun e => ⟨j, I, hj, e⟩) id⟩
theorem Goes.pop {K : Item} (h : Goes N l w (l1 ++ [K]) w1) : Goes N l w l1 w1 := ⟨h.all.pop, h.only, fun b ⟨i, I, hi, hb⟩ => h.own b ⟨i, I, get_snoc_lt hi, hb⟩⟩
theorem Goes.bk {g : Nat} {t : TypeId} {cs : List Value} (h : All N l w) (hj : l[j]? = some (Item.bk g t cs)) (o : Nat) (v : Value) : Goes N l w (l.set j (Item.bk g t (cs.set o v))) (w.setCell ⟨g, o, none⟩ v) :=
  Goes.set hj (h.setBk hj o v) bk_only fun b hb => .inl hb
theorem Goes.add {K : Item} (h : All N l w) (hb : Below w.heap.size w w1) (hn : ∀ b, K.own b → w.heap.size ≤ b) (hk : K.is (fun b => N b ∨ anyOwn l b) w1) : Goes N l w (l ++ [K]) w1 :=
  ⟨h.add K hb hn hk, Only.of_below hb, fun b hb => (any_snoc hb).imp id (hn b)⟩
/-- A thing that has become several. -/
theorem Goes.many (h : All N l w) {l1 : List Item} (hj : l[j]? = some (Item.many l1)) {l2 : List Item} (hg : Goes (oth N l j) l1 w l2 w1) : Goes N l w (l.set j (Item.many l2)) w1 :=
  Goes.set hj (h.set j hj (Item.many l2) hg.only hg.own hg.all.2) hg.only hg.own
theorem All.many (h : All N l w) {l1 : List Item} (hj : l[j]? = some (Item.many l1)) : All (oth N l j) l1 w := ⟨h.hN j, h.get j hj⟩
end
theorem out_own {N : Nat → Prop} {l : List Item} {w w' : World} {j : Nat} {kb : Option Nat} {vp : Value} {s : TS} {e : Ending} (h : OutJ N l w j kb vp s e w') (hj : l[j]? = some (Item.side kb s vp)) : ∃ v vp', e = .returned v ∧ Goes N l w (l.set j (Item.side kb s.outp.2 vp') ++ [Item.row v s.outp.1]) w' := by
  obtain ⟨ho, v, vp', rfl, ha, hown, hrow⟩ := h
  exact ⟨v, vp', rfl, Goes.snoc hj ha ho hown hrow⟩
/-- A row that has grown. -/
def AppAt (N : Nat → Prop) (l : List Item) (w0 : World) (j : Nat) (v0 : Value) (ps : List Pk) (v : Value) (W : World) : Prop :=
  All N (l.set j (Item.row v ps)) W ∧ Only (fun b => v0.ownBlock = some b) w0 W ∧ (∃ A m c, v = .slice A m c) ∧ ∀ b, v.ownBlock = some b → v0.ownBlock = some b ∨ w0.heap.size ≤ b
theorem AppAt.mono (N : Nat → Prop) (l : List Item) (w0 : World) (j : Nat) (v0 : Value) (ps : List Pk) : Mono (AppAt N l w0 j v0 ps) := fun v w1 w2 h ⟨a, b, c, d⟩ => ⟨a.ext h, b.trans (Only.of_below h) fun x hx => .inl hx, c, d⟩
theorem AppAt.form {N : Nat → Prop} {l : List Item} {w0 : World} {j : Nat} {v0 : Value} {ps : List Pk} {v : Value} {W : World} (h : AppAt N l w0 j v0 ps v W) : ∃ A m c, v = .slice A m c := h.2.2.1

theorem run_index2 (w : World) (m : Nat) (hm : m < 2) (a b : Option Nat) : (Instr.index 49 (.agg #[ptr a, ptr b]) (.int .i64 (m : Int))).run Try.prog w = .ok (ptr (if m = 0 then a else b)) w := by
  rcases two_cases hm with rfl | rfl <;> kernel_rfl
def outN (P : PS) (m : Nat) : PS := if m = 0 then P else if m = 1 then P.outI 0 else P.out
theorem outN_succ (P : PS) {m : Nat} (h : m < 2) : outN P (m + 1) = (outN P m).outI m := by rcases two_cases h with rfl | rfl <;> rfl
section
variable {N : Nat → Prop} {w : World} {g : Nat} {P : PS} {V : PV}
theorem outN_bag (h : ∀ i, i < 2 → (P.bag i).length ≤ 300) (m : Nat) (i : Nat) (hi : i < 2) : ((outN P m).bag i).length ≤ 300 := by
  have h1 : ∀ (P : PS), (∀ i, i < 2 → (P.bag i).length ≤ 300) → ∀ k, ∀ i, i < 2 → ((P.outI k).bag i).length ≤ 300 := fun P h k i hi => by
    show (fset P.bag (1 - k) _ i).length ≤ 300
    unfold fset
    split
    · exact addBag_le _ (h _ (by omega)) _
    · exact h i hi
  unfold outN PS.out
  split
  · exact h i hi
  · split
    · exact h1 P h 0 i hi
    · exact h1 _ (h1 P h 0) 1 i hi
set_option maxRecDepth 100000 in
set_option maxHeartbeats 2000000 in
theorem pout_calls (h : All N (pItems g P V) w) (hb : ∀ i, i < 2 → (P.bag i).length ≤ 300) (hc : ∀ i, i < 2 → (P.c i).pack.length ≤ 1000000) :
    Calls Try.prog 70 #[.pointer (some ⟨g, 0, none⟩)] w fun e w' => e = .returned (.tuple #[]) ∧ ∃ V', Goes N (pItems g P V) w (pItems g P.out V') w' ∧ V'.k = V.k := by
  have H := Lib.hid h
  have HB := Lib.hid hb
  have HC := Lib.hid hc
  obtain ⟨pa, hpa⟩ : ∃ pa, ptr (V.k 0) = pa := ⟨_, rfl⟩
  obtain ⟨pb, hpb⟩ : ∃ pb, ptr (V.k 1) = pb := ⟨_, rfl⟩
  have hk := (h.get 0 rfl).1
  have c0 : w.cell? ⟨g, 0, none⟩ = some pa := by rw [← hpa]; exact hk.cell rfl
  have c1 : w.cell? ⟨g, 1, none⟩ = some pb := by rw [← hpb]; exact hk.cell rfl
  have hix := fun (W : World) (m : Nat) (hm : m < 2) => run_index2 W m hm (V.k 0) (V.k 1)
  rw [hpa, hpb] at hix
  have HIX := Lib.hid hix
  have HPA := Lib.hid hpa
  have HPB := Lib.hid hpb
  have HST : Hid (∃ V', Goes N (pItems g P V) w (pItems g (outN P 0) V') w ∧ V'.k = V.k) := Lib.hid ⟨V, Goes.refl h, rfl⟩
  clear h hb hc hk hix hpa hpb
  go_enter Try.func70, Try.ntmps70
  go_wp2_with fail
  go_loopg [10] 2 (fun gk v wr => ∃ m : Nat, v = .int .i64 (m : Int) ∧ m + gk = 2 ∧ Hid (∃ V', Goes N (pItems g P V) w (pItems g (outN P m) V') wr ∧ V'.k = V.k))
  case atStart => exact ⟨0, rfl, by omega, HST⟩
  case round =>
    obtain ⟨m, rfl, hmg, hinv⟩ := hrel
    clear c0 c1
    by_cases hm : m < 2
    · have hmi : (m : Int) < 2 := by omega
      have hwm : IntKind.i64.wrap ((m : Int) + 1) = ((m + 1 : Nat) : Int) := by rw [IntWalk.i64_in _ (by omega)]; omega
      obtain ⟨j, hj⟩ : ∃ j, 1 - m = j := ⟨_, rfl⟩
      have hj2 : j < 2 := by omega
      have hwj : IntKind.i64.wrap (1 - (m : Int)) = (j : Int) := by rw [IntWalk.i64_in _ (by omega)]; omega
      obtain ⟨V1, hg1, hk1⟩ := hinv.out
      obtain ⟨P1, hP1⟩ : ∃ P1, outN P m = P1 := ⟨_, rfl⟩
      have hP2 := outN_succ P hm
      rw [hP1] at hg1 hP2
      obtain ⟨pm, hpm⟩ : ∃ pm, ptr (if m = 0 then V.k 0 else V.k 1) = pm := ⟨_, rfl⟩
      have hkm : ptr (V1.k m) = pm := by
        rw [← hpm, hk1]
        rcases two_cases hm with rfl | rfl <;> rfl
      have hi2 := fun W : World => HIX.out W m hm
      rw [hpm] at hi2
      have HOU := Lib.hid (side_out hg1.all (p_side hm))
      rw [hkm] at HOU
      have HG1 := Lib.hid hg1
      have HK1 := Lib.hid hk1
      have HP2 := Lib.hid hP2
      have HB1 : Hid ((P1.bag j).length ≤ 300 ∧ (P1.c m).pack.length ≤ 1000000) := Lib.hid (by
        rw [← hP1]
        refine ⟨outN_bag HB.out m j hj2, ?_⟩
        unfold outN PS.out
        split
        · exact HC.out m hm
        · split
          · show (fset P.c 0 _ m).pack.length ≤ 1000000
            rw [fset_no _ _ (by omega)]
            exact HC.out m hm
          · omega)
      clear hg1 hk1 hP1 hP2 hpm hkm hinv
      go_wp2_with fail
      refine HOU.out.mono ?_
      intro e w1 hd
      obtain ⟨u, vp', rfl, hg2⟩ := out_own hd (p_side hm)
      obtain ⟨qs, hqs⟩ : ∃ qs, (P1.c m).outp.1 = qs := ⟨_, rfl⟩
      have hql : qs.length ≤ 1000000 := by
        rw [← hqs]
        unfold TS.outp
        split
        · exact Nat.zero_le _
        · exact HB1.out.2
      obtain ⟨P2, hP2⟩ : ∃ P2, ({ P1 with c := fset P1.c m (P1.c m).outp.2 } : PS) = P2 := ⟨_, rfl⟩
      have hb2 : P2.bag = P1.bag := by rw [← hP2]
      have hP3 : P1.outI m = { P2 with bag := fset P2.bag j (addBag (P2.bag j) qs) } := by rw [← hP2, ← hj, ← hqs]; rfl
      rw [hqs, p_set_side hm, hP2] at hg2
      have hg3 := HG1.out.trans hg2
      obtain ⟨A, cap, rfl, hcap, hmax, hA⟩ := row_form' (hg3.all.get _ get_last)
      obtain ⟨n, hn⟩ : ∃ n, qs.length = n := ⟨_, rfl⟩
      rw [hn] at hg3 hcap hA hql ⊢
      have HQN := Lib.hid hn
      have HP3 := Lib.hid hP3
      have HB2 : Hid ((P2.bag j).length ≤ 300) := Lib.hid (by rw [hb2]; exact HB1.out.1)
      have HIN : Hid (∃ V2, Goes N (pItems g P V) w (pItems g { P2 with bag := fset P2.bag j (addBag (P2.bag j) (qs.take 0)) } V2 ++ [Item.row (.slice A n cap) qs]) w1 ∧ V2.k = V.k) := Lib.hid ⟨{ V1 with v := fset V1.v m vp' }, by
        have : ({ P2 with bag := fset P2.bag j (addBag (P2.bag j) (qs.take 0)) } : PS) = P2 := by
          have hf : fset P2.bag j (addBag (P2.bag j) (qs.take 0)) = P2.bag := by
            funext x
            unfold fset
            split
            · rename_i e
              rw [e]
              rfl
            · rfl
          rw [hf]
        rw [this]
        exact hg3, HK1.out⟩
      clear hd hg2 hg3 hP2 hqs hn hP3 hb2 HOU HG1 HB1
      go_wp2_with fail
      go_loopg [17] n (fun gk v wr => ∃ q : Nat, v = .int .i64 (q : Int) ∧ q + gk = n ∧ Hid (∃ V2, Goes N (pItems g P V) w (pItems g { P2 with bag := fset P2.bag j (addBag (P2.bag j) (qs.take q)) } V2 ++ [Item.row (.slice A n cap) qs]) wr ∧ V2.k = V.k))
      case atStart => exact ⟨0, rfl, by omega, HIN⟩
      case round =>
        obtain ⟨q, rfl, hqg, hinv⟩ := hrel
        by_cases hq : q < n
        · have hqi : (q : Int) < (n : Int) := by omega
          have hwq : IntKind.i64.wrap ((q : Int) + 1) = ((q + 1 : Nat) : Int) := by rw [IntWalk.i64_in _ (by omega)]; omega
          obtain ⟨ga, rfl⟩ := hA (by omega)
          obtain ⟨V2, hg2, hk2⟩ := hinv.out
          have hqp : q < qs.length := by rw [HQN.out]; exact hq
          obtain ⟨p, hp⟩ : ∃ p, qs[q]? = some p := ⟨_, List.getElem?_eq_getElem hqp⟩
          obtain ⟨bg, hbg⟩ : ∃ bg, addBag (P2.bag j) (qs.take q) = bg := ⟨_, rfl⟩
          have hsn : addBag (P2.bag j) (qs.take (q + 1)) = if bg.length < 300 then bg ++ [p] else bg := by
            rw [← hbg, ← addBag_snoc, List.take_add_one, hp]
            rfl
          have hbl : bg.length ≤ 300 := by rw [← hbg]; exact addBag_le _ HB2.out _
          rw [hbg] at hg2
          obtain ⟨B, pn, pc, hat⟩ := row_at (hg2.all.get _ get_last) rfl hp
          have hrw : (pItems g { P2 with bag := fset P2.bag j bg } V2)[3 + j]? = some (Item.row (V2.b j) bg) := by
            rw [p_row hj2]
            show some (Item.row (V2.b j) (fset P2.bag j bg j)) = _
            rw [fset_at]
          have hrw2 := get_snoc_lt (K := Item.row (.slice (some ⟨ga, 0, none⟩) n cap) qs) hrw
          have hbk := (hg2.all.get 0 (get_snoc_lt p_bk)).1
          have cb : wr.cell? ⟨g, 3 + j, none⟩ = some (V2.b j) := hbk.cell (c_row hj2)
          obtain ⟨Ab, capb, hvb, hcb, hmb, hAb⟩ := row_form' (hg2.all.get _ hrw2)
          obtain ⟨bn, hbn⟩ : ∃ bn, bg.length = bn := ⟨_, rfl⟩
          rw [hvb, hbn] at cb
          have hgl := hbk.lt
          obtain ⟨q0, q1, q2, q3, q4, q5, q6, q7, q8, q9, q10⟩ : wr.cell? ⟨ga, q * 11, none⟩ = some (.int .i64 p.src) ∧ wr.cell? ⟨ga, q * 11 + 1, none⟩ = some (.int .i64 p.dst) ∧ wr.cell? ⟨ga, q * 11 + 2, none⟩ = some (.int .i64 p.sp) ∧ wr.cell? ⟨ga, q * 11 + 3, none⟩ = some (.int .i64 p.dp) ∧ wr.cell? ⟨ga, q * 11 + 4, none⟩ = some (.int .u32 (p.seq : Int)) ∧ wr.cell? ⟨ga, q * 11 + 5, none⟩ = some (.int .u32 (p.ack : Int)) ∧ wr.cell? ⟨ga, q * 11 + 6, none⟩ = some (.int .i64 p.fl) ∧ wr.cell? ⟨ga, q * 11 + 7, none⟩ = some (.int .i64 p.wn) ∧ wr.cell? ⟨ga, q * 11 + 8, none⟩ = some (.int .i64 p.pr) ∧ wr.cell? ⟨ga, q * 11 + 9, none⟩ = some (.int .i64 p.og) ∧ wr.cell? ⟨ga, q * 11 + 10, none⟩ = some (.slice B pn pc) := ⟨hat.c0, hat.c1, hat.c2, hat.c3, hat.c4, hat.c5, hat.c6, hat.c7, hat.c8, hat.c9, hat.c10⟩
          have HG2 := Lib.hid hg2
          have HK2 := Lib.hid hk2
          have HAT := Lib.hid hat
          have HSN := Lib.hid hsn
          have HBN := Lib.hid hbn
          have HBG := Lib.hid hbg
          have HVB := Lib.hid hvb
          have HRW := Lib.hid hrw2
          have HINV := hinv
          clear hg2 hk2 hat hsn hbn hvb hrw hrw2 hinv hbk hp hbg hAb hA hbl
          by_cases h3 : bn < 300
          · have h3i : (bn : Int) < 300 := by omega
            go_upto_region 7 with fail
            obtain ⟨gx, hgx⟩ : ∃ gx, wr.heap.size = gx := ⟨_, rfl⟩
            obtain ⟨L7, hL7⟩ : ∃ L7, pItems g { P2 with bag := fset P2.bag j bg } V2 ++ [Item.row (.slice (some ⟨ga, 0, none⟩) n cap) qs] = L7 := ⟨_, rfl⟩
            have hvb2 := HVB.out
            rw [HBN.out] at hvb2
            have hrw := HRW.out
            rw [hvb2, hL7] at hrw
            have hgx2 : ∀ b, anyOwn L7 b → b < gx := by rw [← hL7, ← hgx]; exact HG2.out.all.own_lt
            rw [hgx]
            refine name_world (fun W => Goes N (pItems g P V) w L7 W ∧ BK W gx 32 (p.cs B pn pc) ∧ SlN (fun b => oth N L7 (3 + j) b ∨ (Value.slice Ab bn capb).ownBlock = some b) W (.slice B pn pc) p.data) ⟨by rw [← hL7]; exact HG2.out.ext (ext_alloc _ _), hgx ▸ BK.new _ _ _, by
              have := (row_for HG2.out.all (by
                have : (pItems g { P2 with bag := fset P2.bag j bg } V2).length = 9 := rfl
                omega) get_last HRW.out HAT.out).ext (ext_alloc wr (.cells #[.int .i64 p.src, .int .i64 p.dst, .int .i64 p.sp, .int .i64 p.dp, .int .u32 (p.seq : Int), .int .u32 (p.ack : Int), .int .i64 p.fl, .int .i64 p.wn, .int .i64 p.pr, .int .i64 p.og, .slice B pn pc] 32))
              rw [hL7, hvb2] at this
              exact this⟩ ?_
            rintro w7 ⟨hg7, hkx, hsl⟩
            have hb0 : L7[0]? = some (Item.bk g 53 (pCells { P2 with bag := fset P2.bag j bg } V2)) := by rw [← hL7]; exact get_snoc_lt p_bk
            have hbk7 := (hg7.all.get 0 hb0).1
            have hnv : ∀ b, (Value.slice Ab bn capb).ownBlock = some b → b ≠ g ∧ b < w7.heap.size ∧ b < gx := fun b hb => ⟨fun e => hg7.all.apart (i := 3 + j) (j := 0) (by omega) hrw hb0 hb e, hg7.all.own_lt b ⟨3 + j, _, hrw, hb⟩, hgx2 b ⟨3 + j, _, hrw, hb⟩⟩
            have HCG : Hid (∀ W : World, Only (fun b => (Value.slice Ab bn capb).ownBlock = some b) w7 W → W.cell? ⟨g, 3 + j, none⟩ = some (.slice Ab bn capb) ∧ W.frozen? ⟨g, 3 + j, none⟩ = false) := Lib.hid fun W hW => by
              have hk := hbk7.same (hW.block g hbk7.lt fun e => (hnv g e).1 rfl)
              refine ⟨?_, hk.frozen _⟩
              rw [← hvb2]
              exact hk.cell (c_row hj2)
            have HKG : Hid (∀ W : World, Only (fun b => (Value.slice Ab bn capb).ownBlock = some b) w7 W → BK W gx 32 (p.cs B pn pc)) := Lib.hid fun W hW => hkx.same (hW.block gx hkx.lt fun e => by have := (hnv gx e).2.2; omega)
            obtain ⟨⟨xs, hx1, hx2⟩, hx3⟩ := hg7.all.get _ hrw
            rw [HBN.out] at hx1
            have HX1 := Lib.hid hx1
            obtain ⟨Z, hZ⟩ : ∃ Z, w7.heap.size = Z := ⟨_, rfl⟩
            have HZ := Lib.hid hZ
            have HROW : Hid (∀ b, (Value.slice Ab bn capb).ownBlock = some b → b < Z) := Lib.hid fun b hb => hZ ▸ (hnv b hb).2.1
            have HPA : Hid (∀ (W W' : World) (v' : Value), Only (fun b => (Value.slice Ab bn capb).ownBlock = some b) w7 W → W'.ownsRow 0 32 11 v' (bn + 1) (xs ++ [.int .i64 p.src, .int .i64 p.dst, .int .i64 p.sp, .int .i64 p.dp, .int .u32 (p.seq : Int), .int .u32 (p.ack : Int), .int .i64 p.fl, .int .i64 p.wn, .int .i64 p.pr, .int .i64 p.og, .slice B pn pc]) → W.grownBy W' (Value.slice Ab bn capb).ownBlock → (v'.ownBlock = (Value.slice Ab bn capb).ownBlock ∨ v'.ownBlock = some W.heap.size) → AppAt N L7 w7 (3 + j) (.slice Ab bn capb) (bg ++ [p]) v' W') := Lib.hid fun W W' v' hW hx hg hv => by
              have hr := row_append (M := N) hg7.all hrw hx2 HAT.out.len hsl HAT.out.inn hW (by rw [HBN.out]; exact hx) hg hv
              refine ⟨hr.1, hr.2, ?_, fun b hb => ?_⟩
              · rcases hx.2 with ⟨e, _⟩ | ⟨_, _, _, e, _⟩
                · exact ⟨none, 0, 0, e⟩
                · exact ⟨_, _, _, e⟩
              · rcases hv with e | e
                · exact .inl (e ▸ hb)
                · rw [e] at hb
                  have := Option.some.inj hb
                  have := hW.size
                  exact .inr (by omega)
            have HFIN : Hid (∀ (W : World) (v : Value), AppAt N L7 w7 (3 + j) (.slice Ab bn capb) (bg ++ [p]) v W → ∃ V3, Goes N L7 w7 (pItems g { P2 with bag := fset P2.bag j (bg ++ [p]) } V3 ++ [Item.row (.slice (some ⟨ga, 0, none⟩) n cap) qs]) (W.setCell ⟨g, 3 + j, none⟩ v) ∧ V3.k = V2.k) := Lib.hid fun W v hv => by
              obtain ⟨h1, h2, h3, h4⟩ := hv
              have hb1 : (L7.set (3 + j) (Item.row v (bg ++ [p])))[0]? = some (Item.bk g 53 (pCells { P2 with bag := fset P2.bag j bg } V2)) := by rw [getElem?_set_ne _ (by omega)]; exact hb0
              have hgo := (Goes.set hrw h1 h2 h4).trans (Goes.bk h1 hb1 (3 + j) v)
              refine ⟨{ V2 with b := fset V2.b j v }, ?_, rfl⟩
              have e := p_set_row (g := g) (P := { P2 with bag := fset P2.bag j bg }) (V := V2) hj2 v (bg ++ [p])
              have e2 : fset (fset P2.bag j bg) j (bg ++ [p]) = fset P2.bag j (bg ++ [p]) := by
                funext x
                unfold fset
                split <;> rfl
              rw [← hL7, set_snoc (p_row hj2), set_snoc (show ((pItems g { P2 with bag := fset P2.bag j bg } V2).set (3 + j) (Item.row v (bg ++ [p])))[0]? = some (Item.bk g 53 (pCells { P2 with bag := fset P2.bag j bg } V2)) by rw [getElem?_set_ne _ (by omega)]; rfl), e] at hgo
              rw [← hL7]
              have e3 : ({ ({ P2 with bag := fset P2.bag j bg } : PS) with bag := fset (fset P2.bag j bg) j (bg ++ [p]) } : PS) = { P2 with bag := fset P2.bag j (bg ++ [p]) } := by rw [e2]
              rw [← e3]
              exact hgo
            have HG7 := Lib.hid hg7
            have HL7 := Lib.hid hL7
            clear hg7 hkx hsl hb0 hbk7 hnv hx1 hx2 hx3 hZ hrw hgx hgx2 hvb2 hL7 q0 q1 q2 q3 q4 q5 q6 q7 q8 q9 q10 cb hgl
            refine wp_region_fin [[], [], [1], [], [], [4], [3], [3, 6], [3, 4, 5, 6, 7], [3, 4, 5, 6, 7, 8], [], [10], [3, 4, 5, 6, 7, 8, 9, 10, 11], [0], [0, 13], [0, 1, 2, 3, 4, 5, 6, 7, 8, 9, 10, 11, 12, 13, 14], [0, 1, 2, 3, 4, 5, 6, 7, 8, 9, 10, 11, 12, 13, 14, 15]]
              [fun u _ => u = .pointer (some ⟨g, 0, none⟩),
               fun u _ => u = .int .i64 (m : Int),
               fun u _ => u = .int .i64 (j : Int),
               fun u _ => u = .pointer (some ⟨g, 0, none⟩),
               fun u _ => u = .int .i64 (m : Int),
               fun u _ => u = .int .i64 (j : Int),
               fun u _ => u = .pointer (some ⟨g, 0, none⟩),
               fun u _ => u = .pointer (some ⟨g, 3, none⟩),
               fun u _ => u = .pointer (some ⟨g, 3 + j, none⟩),
               fun u _ => u = .slice Ab bn capb,
               fun u _ => u = .agg #[.int .i64 p.src, .int .i64 p.dst, .int .i64 p.sp, .int .i64 p.dp, .int .u32 (p.seq : Int), .int .u32 (p.ack : Int), .int .i64 p.fl, .int .i64 p.wn, .int .i64 p.pr, .int .i64 p.og, .slice B pn pc],
               fun u w => SlPk Z [.int .i64 p.src, .int .i64 p.dst, .int .i64 p.sp, .int .i64 p.dp, .int .u32 (p.seq : Int), .int .u32 (p.ack : Int), .int .i64 p.fl, .int .i64 p.wn, .int .i64 p.pr, .int .i64 p.og, .slice B pn pc] u w,
               fun u w => AppAt N L7 w7 (3 + j) (.slice Ab bn capb) (bg ++ [p]) u w,
               fun u _ => u = .pointer (some ⟨g, 0, none⟩),
               fun u _ => u = .pointer (some ⟨g, 3, none⟩),
               fun u _ => u = .pointer (some ⟨g, 3 + j, none⟩)]
              (fun u => ⟨#[Value.pointer (some { block := g, off := 0 }), undef, Value.int IntKind.i64 (m : Int), pm, undef, Value.pointer (some { block := gx, off := 0 }), Value.pointer (some { block := g, off := 0 }), Value.pointer (some { block := g, off := 0 }), Value.pointer (some { block := g, off := 0 }), Value.agg #[pa, pb], Value.int IntKind.i64 (m : Int), Value.bool true, Value.int IntKind.i64 (m : Int), pm, pm, Value.slice (some { block := ga, off := 0 }) n cap, Value.int IntKind.i64 (n : Int), Value.int IntKind.i64 (q : Int), Value.bool true, Value.pointer (some { block := ga, off := q * 11 }), Value.agg #[Value.int IntKind.i64 p.src, Value.int IntKind.i64 p.dst, Value.int IntKind.i64 p.sp, Value.int IntKind.i64 p.dp, Value.int IntKind.u32 (p.seq : Int), Value.int IntKind.u32 (p.ack : Int), Value.int IntKind.i64 p.fl, Value.int IntKind.i64 p.wn, Value.int IntKind.i64 p.pr, Value.int IntKind.i64 p.og, Value.slice B pn pc], Value.pointer (some { block := g, off := 0 }), Value.int IntKind.i64 (m : Int), Value.int IntKind.i64 (j : Int), Value.pointer (some { block := g, off := 0 }), Value.pointer (some { block := g, off := 3 }), Value.pointer (some { block := g, off := 3 + j }), Value.slice Ab bn capb, Value.int IntKind.i64 (bn : Int), Value.bool true, u 0, u 1, u 2, u 3, u 4, u 5, u 6, u 7, u 8, u 9, u 10, u 11, u 12, u 13, u 14, u 15, u46, u47], []⟩)
              (fun W => Only (fun b => (Value.slice Ab bn capb).ownBlock = some b) w7 W) (fun W => W.ownsRow 0 32 11 (.slice Ab bn capb) bn xs) (Value.slice Ab bn capb).ownBlock 12 16 (fun _ W => ∃ V3, Goes N L7 w7 (pItems g { P2 with bag := fset P2.bag j (bg ++ [p]) } V3 ++ [Item.row (.slice (some ⟨ga, 0, none⟩) n cap) qs]) W ∧ V3.k = V2.k) (fun j => [u30, u31, u32, u33, u34, u35, u36, u37, u38, u39, u40, u41, u42, u43, u44, u45, undef].getD j undef) (by kernel_rfl) (by kernel_rfl) (by kernel_rfl) rfl (by kernel_rfl) (Nat.le_of_eq rfl) ⟨Mono.eq _, Mono.eq _, Mono.eq _, Mono.eq _, Mono.eq _, Mono.eq _, Mono.eq _, Mono.eq _, Mono.eq _, Mono.eq _, Mono.eq _, SlPk.mono _ _, AppAt.mono _ _ _ _ _ _, Mono.eq _, Mono.eq _, Mono.eq _, trivial⟩ ⟨.inr (.inr (MonoRow.eq _ _)), ⟨.inr (.inr (MonoRow.eq _ _)), ⟨.inr (.inr (MonoRow.eq _ _)), ⟨.inr (.inr (MonoRow.eq _ _)), ⟨.inr (.inr (MonoRow.eq _ _)), ⟨.inr (.inr (MonoRow.eq _ _)), ⟨.inr (.inr (MonoRow.eq _ _)), ⟨.inr (.inr (MonoRow.eq _ _)), ⟨.inr (.inr (MonoRow.eq _ _)), ⟨.inr (.inr (MonoRow.eq _ _)), ⟨.inr (.inr (MonoRow.eq _ _)), ⟨.inr (.inr (SlPk.monoRow _ HROW.out)), ⟨.inl rfl, ⟨.inr (.inr (MonoRow.eq _ _)), ⟨.inr (.inr (MonoRow.eq _ _)), ⟨.inr (.inr (MonoRow.eq _ _)), trivial⟩⟩⟩⟩⟩⟩⟩⟩⟩⟩⟩⟩⟩⟩⟩⟩
              (fun _ _ h1 h2 => ownsRow_same h2 fun b hb => h1.block b (h2.lt b hb).2) (fun _ _ _ h => h) ((Only.refl _ _).drew) (HX1.out) ?_ ?_
            · refine ⟨?_, ?_, ?_, ?_, ?_, ?_, ?_, ?_, ?_, ?_, ?_, ?_, ?_, ?_, ?_, ?_, ?_, trivial⟩
              · intro u w2 hb hS hG hF hU J K hJ hK
                have HB2 := Lib.hid hb
                have HS2 := Lib.hid hS
                have HG2 := Lib.hid hG
                have HF := Lib.hid hF
                clear hb hF hS hG hU
                go_wp2
                exact hJ _ _ _ (Nat.le_refl _) (fun _ => ⟨HB2.out, fun _ => Below.refl _ _, fun h => absurd h (by decide), rfl⟩) (fun h => absurd h (by decide)) (by simp [setU] <;> omega)
              · intro u w2 hb hS hG hF hU J K hJ hK
                have HB2 := Lib.hid hb
                have HS2 := Lib.hid hS
                have HG2 := Lib.hid hG
                have HF := Lib.hid hF
                clear hb hF hS hG hU
                go_wp2
                exact hJ _ _ _ (Nat.le_refl _) (fun _ => ⟨HB2.out, fun _ => Below.refl _ _, fun h => absurd h (by decide), rfl⟩) (fun h => absurd h (by decide)) (by simp [setU] <;> omega)
              · intro u w2 hb hS hG hF hU J K hJ hK
                have HB2 := Lib.hid hb
                have HS2 := Lib.hid hS
                have HG2 := Lib.hid hG
                have HF := Lib.hid hF
                clear hb hF hS hG hU
                have f1 : u 1 = .int .i64 (m : Int) := HF.out 1 (by decide)
                go_wp2
                exact hJ _ _ _ (Nat.le_refl _) (fun _ => ⟨HB2.out, fun _ => Below.refl _ _, fun h => absurd h (by decide), rfl⟩) (fun h => absurd h (by decide)) (by simp [setU, f1] <;> omega)
              · intro u w2 hb hS hG hF hU J K hJ hK
                have HB2 := Lib.hid hb
                have HS2 := Lib.hid hS
                have HG2 := Lib.hid hG
                have HF := Lib.hid hF
                clear hb hF hS hG hU
                go_wp2
                exact hJ _ _ _ (Nat.le_refl _) (fun _ => ⟨HB2.out, fun _ => Below.refl _ _, fun h => absurd h (by decide), rfl⟩) (fun h => absurd h (by decide)) (by simp [setU] <;> omega)
              · intro u w2 hb hS hG hF hU J K hJ hK
                have HB2 := Lib.hid hb
                have HS2 := Lib.hid hS
                have HG2 := Lib.hid hG
                have HF := Lib.hid hF
                clear hb hF hS hG hU
                go_wp2
                exact hJ _ _ _ (Nat.le_refl _) (fun _ => ⟨HB2.out, fun _ => Below.refl _ _, fun h => absurd h (by decide), rfl⟩) (fun h => absurd h (by decide)) (by simp [setU] <;> omega)
              · intro u w2 hb hS hG hF hU J K hJ hK
                have HB2 := Lib.hid hb
                have HS2 := Lib.hid hS
                have HG2 := Lib.hid hG
                have HF := Lib.hid hF
                clear hb hF hS hG hU
                have f4 : u 4 = .int .i64 (m : Int) := HF.out 4 (by decide)
                go_wp2
                exact hJ _ _ _ (Nat.le_refl _) (fun _ => ⟨HB2.out, fun _ => Below.refl _ _, fun h => absurd h (by decide), rfl⟩) (fun h => absurd h (by decide)) (by simp [setU, f4] <;> omega)
              · intro u w2 hb hS hG hF hU J K hJ hK
                have HB2 := Lib.hid hb
                have HS2 := Lib.hid hS
                have HG2 := Lib.hid hG
                have HF := Lib.hid hF
                clear hb hF hS hG hU
                have f3 : u 3 = .pointer (some ⟨g, 0, none⟩) := HF.out 3 (by decide)
                go_wp2
                exact hJ _ _ _ (Nat.le_refl _) (fun _ => ⟨HB2.out, fun _ => Below.refl _ _, fun h => absurd h (by decide), rfl⟩) (fun h => absurd h (by decide)) (by simp [setU, f3] <;> omega)
              · intro u w2 hb hS hG hF hU J K hJ hK
                have HB2 := Lib.hid hb
                have HS2 := Lib.hid hS
                have HG2 := Lib.hid hG
                have HF := Lib.hid hF
                clear hb hF hS hG hU
                have f6 : u 6 = .pointer (some ⟨g, 0, none⟩) := HF.out 6 (by decide)
                go_wp2
                exact hJ _ _ _ (Nat.le_refl _) (fun _ => ⟨HB2.out, fun _ => Below.refl _ _, fun h => absurd h (by decide), rfl⟩) (fun h => absurd h (by decide)) (by simp [setU, f6] <;> omega)
              · intro u w2 hb hS hG hF hU J K hJ hK
                have HB2 := Lib.hid hb
                have HS2 := Lib.hid hS
                have HG2 := Lib.hid hG
                have HF := Lib.hid hF
                clear hb hF hS hG hU
                have f5 : u 5 = .int .i64 (j : Int) := HF.out 5 (by decide)
                have f7 : u 7 = .pointer (some ⟨g, 3, none⟩) := HF.out 7 (by decide)
                go_wp2
                exact hJ _ _ _ (Nat.le_refl _) (fun _ => ⟨HB2.out, fun _ => Below.refl _ _, fun h => absurd h (by decide), rfl⟩) (fun h => absurd h (by decide)) (by simp [setU, f5, f7] <;> omega)
              · intro u w2 hb hS hG hF hU J K hJ hK
                have HB2 := Lib.hid hb
                have HS2 := Lib.hid hS
                have HG2 := Lib.hid hG
                have HF := Lib.hid hF
                clear hb hF hS hG hU
                have f8 : u 8 = .pointer (some ⟨g, 3 + j, none⟩) := HF.out 8 (by decide)
                have cc := (HCG.out w2 HB2.out).1
                go_wp2
                exact hJ _ _ _ (Nat.le_refl _) (fun _ => ⟨HB2.out, fun _ => Below.refl _ _, fun h => absurd h (by decide), rfl⟩) (fun h => absurd h (by decide)) (by simp [setU, f8] <;> omega)
              · intro u w2 hb hS hG hF hU J K hJ hK
                have HB2 := Lib.hid hb
                have HS2 := Lib.hid hS
                have HG2 := Lib.hid hG
                have HF := Lib.hid hF
                clear hb hF hS hG hU
                have HKW := Lib.hid (HKG.out w2 HB2.out)
                have q0 := HKW.out.cell (i := 0) rfl
                have q1 := HKW.out.cell (i := 1) rfl
                have q2 := HKW.out.cell (i := 2) rfl
                have q3 := HKW.out.cell (i := 3) rfl
                have q4 := HKW.out.cell (i := 4) rfl
                have q5 := HKW.out.cell (i := 5) rfl
                have q6 := HKW.out.cell (i := 6) rfl
                have q7 := HKW.out.cell (i := 7) rfl
                have q8 := HKW.out.cell (i := 8) rfl
                have q9 := HKW.out.cell (i := 9) rfl
                have q10 := HKW.out.cell (i := 10) rfl
                go_wp2
                exact hJ _ _ _ (Nat.le_refl _) (fun _ => ⟨HB2.out, fun _ => Below.refl _ _, fun h => absurd h (by decide), rfl⟩) (fun h => absurd h (by decide)) (by simp [setU] <;> omega)
              · intro u w2 hb hS hG hF hU J K hJ hK
                have HB2 := Lib.hid hb
                have HS2 := Lib.hid hS
                have HG2 := Lib.hid hG
                have HF := Lib.hid hF
                clear hb hF hS hG hU
                have f10 : u 10 = .agg #[.int .i64 p.src, .int .i64 p.dst, .int .i64 p.sp, .int .i64 p.dp, .int .u32 (p.seq : Int), .int .u32 (p.ack : Int), .int .i64 p.fl, .int .i64 p.wn, .int .i64 p.pr, .int .i64 p.og, .slice B pn pc] := HF.out 10 (by decide)
                go_wp2
                exact hJ _ _ _ ((ext_alloc _ _).size) (fun _ => ⟨HB2.out.trans (Only.of_below (ext_alloc _ _)) fun b hb => .inl hb, fun _ => ext_alloc _ _, fun h => absurd h (by decide), ⟨_, rfl, HZ.out ▸ HB2.out.size, BK.new _ _ _⟩⟩) (fun h => absurd h (by decide)) (by simp [setU, f10] <;> omega)
              · intro u w2 hb hS hG hF hU J K hJ hK
                have HB2 := Lib.hid hb
                have HS2 := Lib.hid hS
                have HG2 := Lib.hid hG
                have HF := Lib.hid hF
                clear hb hF hS hG hU
                have f9 : u 9 = .slice Ab bn capb := HF.out 9 (by decide)
                obtain ⟨b6, f11, hz6, hk6⟩ := HF.out 11 (by decide)
                have HK6 := Lib.hid hk6
                have HXW := Lib.hid (HG2.out rfl)
                obtain ⟨i0, hi0, hz0, hz1, hz2⟩ := info_parts infoPk
                clear hk6
                dsimp only
                rw [f9, f11]
                refine wpList_append_own_at w2 rfl _ _ 36 rfl 0 32 i0 (.agg zeroCs.toArray) 11 96 Try.underlying36 hi0 hz0 hz1 hz2 rfl (by decide) (.slice Ab bn capb) bn xs rfl HXW.out ⟨b6, 0, none⟩ 1 1 [.int .i64 p.src, .int .i64 p.dst, .int .i64 p.sp, .int .i64 p.dp, .int .u32 (p.seq : Int), .int .u32 (p.ack : Int), .int .i64 p.fl, .int .i64 p.wn, .int .i64 p.pr, .int .i64 p.og, .slice B pn pc] rfl rfl (fun j u hj => by rw [add_pl, Nat.zero_add]; exact HK6.out.cell hj) (by simp [Value.oneCell']) (by unfold maxLen; omega) (by omega) (Nat.zero_le _) ?_
                intro v3 w3 hx3 hg3 _ hv3
                have HP3 : Hid (AppAt N L7 w7 (3 + j) (.slice Ab bn capb) (bg ++ [p]) v3 w3) := Lib.hid (HPA.out w2 w3 v3 HB2.out hx3 hg3 hv3)
                have HI3 : Hid (Only (fun b => (Value.slice Ab bn capb).ownBlock = some b) w7 w3) := Lib.hid (HB2.out.trans (grown_only hg3) fun b hb => .inl hb)
                have HG3 := Lib.hid hg3
                clear hx3 hg3 hv3
                go_wp2
                exact hJ _ _ _ (HG3.out.size) (fun _ => ⟨HI3.out, fun h => absurd rfl h, fun _ => HG3.out, HP3.out⟩) (fun h => absurd h (by decide)) (by simp [setU, f9, f11] <;> omega)
              · intro u w2 hb hS hG hF hU J K hJ hK
                have HB2 := Lib.hid hb
                have HS2 := Lib.hid hS
                have HG2 := Lib.hid hG
                have HF := Lib.hid hF
                clear hb hF hS hG hU
                have f0 : u 0 = .pointer (some ⟨g, 0, none⟩) := HF.out 0 (by decide)
                go_wp2
                exact hJ _ _ _ (Nat.le_refl _) (fun _ => ⟨HB2.out, fun _ => Below.refl _ _, fun h => absurd h (by decide), rfl⟩) (fun h => absurd h (by decide)) (by simp [setU, f0] <;> omega)
              · intro u w2 hb hS hG hF hU J K hJ hK
                have HB2 := Lib.hid hb
                have HS2 := Lib.hid hS
                have HG2 := Lib.hid hG
                have HF := Lib.hid hF
                clear hb hF hS hG hU
                have f13 : u 13 = .pointer (some ⟨g, 0, none⟩) := HF.out 13 (by decide)
                go_wp2
                exact hJ _ _ _ (Nat.le_refl _) (fun _ => ⟨HB2.out, fun _ => Below.refl _ _, fun h => absurd h (by decide), rfl⟩) (fun h => absurd h (by decide)) (by simp [setU, f13] <;> omega)
              · intro u w2 hb hS hG hF hU J K hJ hK
                have HB2 := Lib.hid hb
                have HS2 := Lib.hid hS
                have HG2 := Lib.hid hG
                have HF := Lib.hid hF
                clear hb hF hS hG hU
                have f2 : u 2 = .int .i64 (j : Int) := HF.out 2 (by decide)
                have f14 : u 14 = .pointer (some ⟨g, 3, none⟩) := HF.out 14 (by decide)
                go_wp2
                exact hJ _ _ _ (Nat.le_refl _) (fun _ => ⟨HB2.out, fun _ => Below.refl _ _, fun h => absurd h (by decide), rfl⟩) (fun h => absurd h (by decide)) (by simp [setU, f2, f14] <;> omega)
              · intro u w2 hb hS hG hF hU J K hJ hK
                have HB2 := Lib.hid hb
                have HS2 := Lib.hid hS
                have HG2 := Lib.hid hG
                have HF := Lib.hid hF
                clear hb hF hS hG hU
                have f15 : u 15 = .pointer (some ⟨g, 3 + j, none⟩) := HF.out 15 (by decide)
                have hp7 := HF.out 12 (by decide)
                obtain ⟨A7, m7, c7, f12⟩ := hp7.form
                have HP7 : Hid (AppAt N L7 w7 (3 + j) (.slice Ab bn capb) (bg ++ [p]) (u 12) w2) := Lib.hid hp7
                rw [f12] at HP7
                have cc := (HCG.out w2 HB2.out).1
                have ff := (HCG.out w2 HB2.out).2
                clear hp7
                dsimp only
                rw [f12, f15]
                go_wp2
                exact hJ undef _ _ ((by simp [World.setCell])) (fun h => absurd rfl h) (fun _ => HFIN.out w2 _ HP7.out) (by simp [setU, f12, f15] <;> omega)
            · intro u w2 hS hFL
              have HS2 := Lib.hid hS
              have HFL := Lib.hid hFL
              clear hS hFL
              have HFL2 := Lib.hid HFL.out
              clear HFL
              try dsimp only
              go_wp2_with fail
              go_roundg (gk - 1)
              case measure => omega
              case rel =>
                refine ⟨q + 1, by first | rfl | (congr 1), by omega, Lib.hid ?_⟩
                obtain ⟨V3, hg3, hk3⟩ := HFL2.out
                refine ⟨V3, ?_, hk3.trans HK2.out⟩
                rw [HSN.out, HBN.out, if_pos h3]
                exact HG7.out.trans hg3
          · have h3i : ¬ (bn : Int) < 300 := by omega
            go_wp2_with fail
            go_roundg (gk - 1)
            case measure => omega
            case rel =>
              refine ⟨q + 1, by first | rfl | (congr 1), by omega, Lib.hid ?_⟩
              obtain ⟨V2', hg2', hk2'⟩ := HINV.out
              refine ⟨V2', ?_, hk2'⟩
              have hbg2 : addBag (P2.bag j) (qs.take (q + 1)) = addBag (P2.bag j) (qs.take q) := by rw [HSN.out, HBG.out, HBN.out, if_neg h3]
              rw [hbg2]
              exact hg2'.ext (ext_alloc _ _)
        · obtain rfl : q = n := by omega
          have HF : Hid (∃ V', Goes N (pItems g P V) w (pItems g (outN P (m + 1)) V') wr ∧ V'.k = V.k) := Lib.hid (by
            obtain ⟨V2, hg2, hk2⟩ := hinv.out
            rw [List.take_of_length_le (Nat.le_of_eq HQN.out)] at hg2
            exact ⟨V2, by rw [HP2.out, HP3.out]; exact hg2.pop, hk2⟩)
          clear hinv HIN HST
          go_wp2_with fail
          go_roundg (2 - (m + 1))
          case measure => omega
          case rel => exact ⟨m + 1, by first | rfl | (congr 1), by omega, HF⟩
    · obtain rfl : m = 2 := by omega
      go_wp2_with fail
      go_end0
      exact ⟨rfl, hinv.out⟩
end
end Go.Proofs.Ytjhnnnklfhbebaa
