/- Slices that a call makes itself: what is owned, append, make, stores. No program. -/
import Derived.Test.YtjhnnnklfhbebaaBase
import Derived.Maps.AppendAt
namespace Go.Proofs.Ytjhnnnklfhbebaa
open Go.RowKit

/-- Cells of a slice at A, as values. -/
def RV (w : World) (A : Option Addr) (xs : List Value) : Prop := ∀ j u, xs[j]? = some u → ∃ b o, A = some ⟨b, o, none⟩ ∧ w.cell? ⟨b, o + j, none⟩ = some u
theorem RV.ext {w w' : World} {A : Option Addr} {xs : List Value} (h : RV w A xs) (e : Below w.heap.size w w') : RV w' A xs := fun j u hj => by
  obtain ⟨b, o, rfl, hc⟩ := h j u hj
  exact ⟨b, o, rfl, (e.cell (p := ⟨b, o + j, none⟩) (World.block_lt_of_cell? w _ hc)).trans hc⟩
theorem gb_get (l : List UInt8) (i : Nat) (h : i < l.length) : (l.map vb)[i]? = some (.int .u8 (gb l i : Int)) := by
  simp [vb, gb, List.getD_eq_getElem?_getD, List.getElem?_eq_getElem h]
theorem RV.of_RB {w : World} {A : Option Addr} {l : List UInt8} (h : RB w A l) : RV w A (l.map vb) := fun j u hj => by
  have hlt : j < l.length := by have := (List.getElem?_eq_some_iff.1 hj).1; simpa using this
  obtain ⟨b, o, rfl, hc⟩ := h j hlt
  rw [gb_get l j hlt] at hj
  cases hj
  exact ⟨b, o, rfl, hc⟩
theorem RB.of_RV {w : World} {A : Option Addr} {l : List UInt8} (h : RV w A (l.map vb)) : RB w A l := fun i hi => h i _ (gb_get l i hi)

/-- 'append' onto an owned row, of any slice that is read; elements of one cell. -/
theorem wpList_app {P : Program} {w : World} {ops : Array Oper} {rest : List Oper} {o : Oper} {a : Act} {Q : Exit → Act → World → Prop} (hgd : o.guard = none) (s x : Operand) (t : TypeId)
    (ho : o.op = .call { callee := .builtin .append, args := #[s, x], argTypes := #[t, t] })
    (base : Nat) (e : TypeId) (z : Value) (bytes : Nat) (ht : P.underlying t = some (.slice e)) (hinfo : (P.info? e).map (fun i => (i.zero, i.size, i.bytes)) = some (some z, 1, bytes)) (hz1 : z.cells.size = 1) (hb0 : 0 < bytes)
    (v : Value) (n : Nat) (xs : List Value) (hs : a.eval s = v) (hown : w.ownsRow base e 1 v n xs)
    (A : Option Addr) (m c : Nat) (news : List Value) (hx : a.eval x = .slice A m c) (hl : news.length = m) (hnews : RV w A news) (h1 : ∀ u ∈ news, u.oneCell' = true)
    (hbytes : (n + m) * bytes ≤ 140737488355328) (hbase : base ≤ w.heap.size)
    (h : ∀ v' w', w'.ownsRow base e 1 v' (n + m) (xs ++ news) → w.grownBy w' v.ownBlock → (v'.ownBlock = v.ownBlock ∨ v'.ownBlock = some w.heap.size) → wpList P ops Q rest (a.put o.dst v') w') :
    wpList P ops Q (o :: rest) a w := by
  obtain ⟨i, hi, hz, hsize, hby⟩ := info_parts hinfo
  have hnm : n + m ≤ 140737488355328 := Nat.le_trans (Nat.le_mul_of_pos_right _ hb0) hbytes
  cases A with
  | some ad =>
    refine wpList_append_own_at w hgd s x t ho base e i z 1 bytes ht hi hz hsize hby hz1 (by omega) v n xs hs hown ad m c news hx (by omega) ?_ h1 (by simp only [maxLen]; omega) hbytes hbase fun v' w' h2 h3 _ h5 => h v' w' h2 h3 h5
    intro j u hj
    obtain ⟨b, o, e, hc⟩ := hnews j u hj
    cases e
    have : (⟨b, o, none⟩ : Addr).add j = ⟨b, o + j, none⟩ := by unfold Addr.add; split <;> simp_all
    rw [this]; exact hc
  | none =>
    have hn : news = [] := by
      cases news with
      | nil => rfl
      | cons u r => obtain ⟨b, o, e, _⟩ := hnews 0 u rfl; cases e
    subst hn
    obtain rfl : m = 0 := by simpa using hl.symm
    refine wpList_plain hgd fun K hK' => ?_
    have hrun : (Builtin.append_ #[t, t] o.type #[v, .slice none 0 c]).run P w = .ok v w := by
      rcases hown.2 with ⟨rfl, rfl⟩ | ⟨g, cap, cur, rfl, _, _, hnc, _⟩
      · simp [Builtin.append_, run_underlying ht, sizeOf, typeInfo, hi, Builtin.lenOf, Builtin.firstCells]
      · simp [Builtin.append_, run_underlying ht, sizeOf, typeInfo, hi, Builtin.lenOf, Builtin.firstCells, hnc, storeCells]
    unfold Oper.wp
    simp [execOp, ho, resolve, invoke, builtin, hs, hx, hrun, Result.andThen]
    exact hK' _ _ (h v w (by simpa using hown) (World.grownBy.refl _ _) (.inl rfl))

/-- 'append' by its run. -/
theorem wpList_app_run {P : Program} {w : World} {ops : Array Oper} {rest : List Oper} {o : Oper} {a : Act} {Q : Exit → Act → World → Prop} (hgd : o.guard = none) (s x : Operand) (t u : TypeId)
    (ho : o.op = .call { callee := .builtin .append, args := #[s, x], argTypes := #[t, u] }) (vs vx v : Value) (w1 : World) (hs : a.eval s = vs) (hx : a.eval x = vx)
    (hr : (Builtin.append_ #[t, u] o.type #[vs, vx]).run P w = .ok v w1) (h : wpList P ops Q rest (a.put o.dst v) w1) : wpList P ops Q (o :: rest) a w := by
  refine wpList_plain hgd fun K hK' => ?_
  unfold Oper.wp
  simp [execOp, ho, resolve, invoke, builtin, hs, hx, hr, Result.andThen]
  exact hK' _ _ h

/-- A row of bytes of the call's own. -/
def OwnB (base : Nat) (e : TypeId) (w : World) (v : Value) (l : List UInt8) : Prop := w.ownsRow base e 1 v l.length (l.map vb)
theorem OwnB.form {base : Nat} {e : TypeId} {w : World} {v : Value} {l : List UInt8} (h : OwnB base e w v l) :
    ∃ A c, v = .slice A l.length c ∧ RB w A l ∧ l.length ≤ c ∧ c ≤ maxLen := by
  rcases h.2 with ⟨rfl, h0⟩ | ⟨g, cap, cur, rfl, _, _, hc, hm, _⟩
  · obtain rfl : l = [] := List.eq_nil_of_length_eq_zero h0
    exact ⟨none, 0, rfl, RB.nil _ _, Nat.le_refl _, Nat.zero_le _⟩
  · refine ⟨_, cap, rfl, RB.of_RV fun j u hj => ⟨g, 0, rfl, ?_⟩, hc, hm⟩
    have := h.cells (g := g) rfl j u hj
    rw [show (⟨g, 0, none⟩ : Addr).add j = ⟨g, 0 + j, none⟩ by unfold Addr.add; split <;> simp_all] at this
    exact this
/-- Where there is an element: the row's block. -/
theorem OwnB.block {base : Nat} {e : TypeId} {w : World} {v : Value} {l : List UInt8} (h : OwnB base e w v l) (h0 : 0 < l.length) :
    ∃ g c, v = .slice (some ⟨g, 0, none⟩) l.length c ∧ base ≤ g ∧ g < w.heap.size ∧ l.length ≤ c ∧ c ≤ maxLen := by
  rcases h.2 with ⟨rfl, h1⟩ | ⟨g, cap, cur, rfl, hb, hh, hc, hm, _⟩
  · omega
  · exact ⟨g, cap, rfl, hb, (Array.getElem?_eq_some_iff.1 hh).1, hc, hm⟩
/-- It lives on where only new blocks come. -/
theorem OwnB.ext {base : Nat} {e : TypeId} {w w' : World} {v : Value} {l : List UInt8} (h : OwnB base e w v l) (k : Below w.heap.size w w') : OwnB base e w' v l :=
  World.ownsRow.kept (row := none) h ⟨k.os, k.tape, k.output, k.size, fun i hi _ => k.block i hi⟩ (by cases v.ownBlock <;> simp)
/-- It lives on where another row is written. -/
theorem OwnB.other {base : Nat} {e : TypeId} {w w' : World} {v : Value} {l : List UInt8} (h : OwnB base e w v l) {row : Option Nat} (k : w.grownBy w' row) (hne : v.ownBlock = none ∨ v.ownBlock ≠ row) : OwnB base e w' v l :=
  World.ownsRow.kept h k hne
theorem OwnB.mono {base base' : Nat} {e : TypeId} {w : World} {v : Value} {l : List UInt8} (h : OwnB base e w v l) (hb : base' ≤ base) : OwnB base' e w v l :=
  ⟨h.1, h.2.imp id fun ⟨g, cap, cur, a, b, c⟩ => ⟨g, cap, cur, a, Nat.le_trans hb b, c⟩⟩
theorem OwnB.nil (base : Nat) (e : TypeId) (w : World) : OwnB base e w (.slice none 0 0) [] := World.ownsRow_nil w base e 1
/-- A literal of bytes. -/
theorem OwnB.lit (base : Nat) (e : TypeId) (w : World) (l : List UInt8) (hb : base ≤ w.heap.size) (hm : l.length ≤ maxLen) :
    OwnB base e (w.alloc (.cells (l.map vb).toArray e)) (.slice (some ⟨w.heap.size, 0, none⟩) l.length l.length) l := by
  have := World.ownsRow_lit (base := base) (e := e) (size := 1) w (l.map vb).toArray l.length hb hm (by simp)
  simpa [OwnB] using this
theorem OwnB.lit' (base : Nat) (e : TypeId) (w : World) (l : List UInt8) (g n : Nat) (hb : base ≤ w.heap.size) (hm : l.length ≤ maxLen) (hg : g = w.heap.size) (hn : n = l.length) :
    OwnB base e (w.alloc (.cells (l.map vb).toArray e)) (.slice (some ⟨g, 0, none⟩) n n) l := by
  subst hg hn
  exact OwnB.lit base e w l hb hm
/-- A store into it. -/
theorem OwnB.set {base : Nat} {e : TypeId} {w : World} {g c n : Nat} {l : List UInt8} (h : OwnB base e w (.slice (some ⟨g, 0, none⟩) n c) l) (j : Nat) (x : UInt8) :
    OwnB base e (w.setCell ⟨g, j, none⟩ (.int .u8 (x.toNat : Int))) (.slice (some ⟨g, 0, none⟩) n c) (l.set j x) := by
  unfold OwnB at h ⊢
  have hn : l.length = n := by
    rcases h.2 with ⟨h', _⟩ | ⟨_, _, _, h', _⟩
    · cases h'
    · cases h'; rfl
  subst hn
  have := (World.ownsRow.stored h j (vb x)).1
  rw [List.length_set, List.map_set]
  exact this
theorem grown_setCell (w : World) (g j : Nat) (u : Value) : w.grownBy (w.setCell ⟨g, j, none⟩ u) (some g) :=
  ⟨rfl, rfl, rfl, by simp [World.setCell], fun k _ hk => Below.heap_setCell _ _ _ _ (fun e => hk (by simp [e]))⟩
theorem OwnB.blockLt {base : Nat} {e : TypeId} {w : World} {v : Value} {l : List UInt8} (h : OwnB base e w v l) : ∀ k, v.ownBlock = some k → base ≤ k ∧ k < w.heap.size := World.ownsRow.lt h
/-- A cell of it, and that it may be written. -/
theorem OwnB.cell {base : Nat} {e : TypeId} {w : World} {g n c : Nat} {l : List UInt8} (h : OwnB base e w (.slice (some ⟨g, 0, none⟩) n c) l) (j : Nat) (hj : j < l.length) :
    w.cell? ⟨g, j, none⟩ = some (.int .u8 (gb l j : Int)) ∧ w.frozen? ⟨g, j, none⟩ = false := by
  unfold OwnB at h
  have hn : l.length = n := by
    rcases h.2 with ⟨h', _⟩ | ⟨_, _, _, h', _⟩
    · cases h'
    · cases h'; rfl
  subst hn
  exact ⟨(World.ownsRow.cellAt h j (by omega)).trans (gb_get l j hj), World.ownsRow.frozenAt h j⟩
theorem OwnB.below {base : Nat} {e : TypeId} {w0 w w' : World} {v : Value} {l : List UInt8} (h : OwnB base e w v l) (hB : Below base w0 w) (hg : w.grownBy w' v.ownBlock) (hb : base ≤ w.heap.size) : Below base w0 w' :=
  hB.grown hg hb fun k hk => (h.lt k hk).1

theorem vb_one (l : List UInt8) : ∀ u ∈ l.map vb, u.oneCell' = true := by
  intro u hu
  obtain ⟨x, _, rfl⟩ := List.mem_map.1 hu
  rfl
/-- append of bytes. -/
theorem wpList_appB {P : Program} {w : World} {ops : Array Oper} {rest : List Oper} {o : Oper} {a : Act} {Q : Exit → Act → World → Prop} (hgd : o.guard = none) (s x : Operand) (t : TypeId)
    (ho : o.op = .call { callee := .builtin .append, args := #[s, x], argTypes := #[t, t] })
    (base : Nat) (e : TypeId) (ht : P.underlying t = some (.slice e)) (hinfo : (P.info? e).map (fun i => (i.zero, i.size, i.bytes)) = some (some (.int .u8 0), 1, 1))
    (v : Value) (l1 : List UInt8) (hs : a.eval s = v) (hown : OwnB base e w v l1)
    (A : Option Addr) (m c : Nat) (l2 : List UInt8) (hx : a.eval x = .slice A m c) (hm : l2.length = m) (hr : RB w A l2)
    (hbytes : l1.length + l2.length ≤ 140737488355328) (hbase : base ≤ w.heap.size)
    (h : ∀ v' w', OwnB base e w' v' (l1 ++ l2) → w.grownBy w' v.ownBlock → (v'.ownBlock = v.ownBlock ∨ v'.ownBlock = some w.heap.size) → wpList P ops Q rest (a.put o.dst v') w') :
    wpList P ops Q (o :: rest) a w := by
  subst hm
  refine wpList_app hgd s x t ho base e (.int .u8 0) 1 ht hinfo rfl (by omega) v l1.length (l1.map vb) hs hown A l2.length c (l2.map vb) hx (by simp) (RV.of_RB hr) (vb_one l2) (by omega) hbase fun v' w' h2 h3 h4 => h v' w' ?_ h3 h4
  unfold OwnB
  rw [List.length_append, List.map_append]
  exact h2

theorem gb_take (l : List UInt8) (n i : Nat) (h : i < n) : gb (l.take n) i = gb l i := by
  unfold gb
  rw [List.getD_eq_getElem?_getD, List.getD_eq_getElem?_getD, List.getElem?_take, if_pos h]
theorem gb_drop (l : List UInt8) (n i : Nat) : gb (l.drop n) i = gb l (n + i) := by
  unfold gb
  rw [List.getD_eq_getElem?_getD, List.getD_eq_getElem?_getD, List.getElem?_drop]
/-- A beginning of what is read. -/
theorem RB.take {w : World} {A : Option Addr} {l : List UInt8} (h : RB w A l) (n : Nat) : RB w A (l.take n) := fun i hi => by
  rw [List.length_take] at hi
  obtain ⟨b, o, e, hc⟩ := h i (by omega)
  exact ⟨b, o, e, by rw [gb_take _ _ _ (by omega)]; exact hc⟩
/-- What stands behind n bytes. -/
theorem RB.drop {w : World} {b o : Nat} {l : List UInt8} (h : RB w (some ⟨b, o, none⟩) l) (n : Nat) : RB w (some ⟨b, o + n, none⟩) (l.drop n) := fun i hi => by
  rw [List.length_drop] at hi
  obtain ⟨b', o', e, hc⟩ := h (n + i) (by omega)
  cases e
  exact ⟨b, o + n, rfl, by rw [gb_drop, Nat.add_assoc]; exact hc⟩

/-- 'make([]byte, 0, n)'. -/
theorem wpList_makeB {P : Program} {w : World} {ops : Array Oper} {rest : List Oper} {o : Oper} {a : Act} {Q : Exit → Act → World → Prop}
    (hg : o.guard = none) (l c : Operand) (t : TypeId) (hop : o.op = Op.makeSlice t l c)
    (base : Nat) (e : TypeId) (h1 : P.underlying t = some (.slice e)) (hinfo : (P.info? e).map (fun i => (i.zero, i.size, i.bytes)) = some (some (.int .u8 0), 1, 1))
    (kl kc : IntKind) (C : Int) (n : Nat) (hl : a.eval l = .int kl 0) (hc : a.eval c = .int kc C) (hC : C = (n : Int)) (b2 : n ≤ 140737488355328) (b4 : base ≤ w.heap.size)
    (hK : ∀ w', OwnB base e w' (.slice (some ⟨w.heap.size, 0, none⟩) 0 n) [] → w.grownBy w' none → wpList P ops Q rest (a.put o.dst (.slice (some ⟨w.heap.size, 0, none⟩) 0 n)) w') :
    wpList P ops Q (o :: rest) a w := by
  obtain ⟨i, hi, hz, hsize, hby⟩ := info_parts hinfo
  exact wpList_make_own w hg l c t hop base e i _ 1 h1 hi hz hsize kl kc C n hl hc hC (by rw [hby]; omega) (by simp only [maxLen]; omega) b4 hK
/-- 'make([]byte, n)'. -/
theorem wpList_makeFullB {P : Program} {w : World} {ops : Array Oper} {rest : List Oper} {o : Oper} {a : Act} {Q : Exit → Act → World → Prop}
    (hg : o.guard = none) (l c : Operand) (t : TypeId) (hop : o.op = Op.makeSlice t l c)
    (base : Nat) (e : TypeId) (h1 : P.underlying t = some (.slice e)) (hinfo : (P.info? e).map (fun i => (i.zero, i.size, i.bytes)) = some (some (.int .u8 0), 1, 1))
    (kl kc : IntKind) (L C : Int) (n : Nat) (hl : a.eval l = .int kl L) (hc : a.eval c = .int kc C) (hL : L = (n : Int)) (hC : C = (n : Int)) (b2 : n ≤ 140737488355328) (b4 : base ≤ w.heap.size)
    (hK : ∀ w', OwnB base e w' (.slice (some ⟨w.heap.size, 0, none⟩) n n) (List.replicate n 0) → w.grownBy w' none → wpList P ops Q rest (a.put o.dst (.slice (some ⟨w.heap.size, 0, none⟩) n n)) w') :
    wpList P ops Q (o :: rest) a w := by
  obtain ⟨i, hi, hz, hsize, hby⟩ := info_parts hinfo
  refine wpList_make_full w hg l c t hop base e i _ 1 h1 hi hz hsize kl kc L C n hl hc hL hC (by rw [hby]; omega) (by simp only [maxLen]; omega) b4 fun w' h2 h3 => hK w' ?_ h3
  unfold OwnB
  rw [List.length_replicate, List.map_replicate]
  rw [show (Value.int .u8 0).cells = #[Value.int .u8 0] from rfl, toList_madeCells_one, Nat.mul_one] at h2
  exact h2
theorem grown_none {w0 w w' : World} {B : Nat} (h : Below B w0 w) (hg : w.grownBy w' none) (hb : B ≤ w.heap.size) : Below B w0 w' := h.grown hg hb fun k hk => by cases hk

/-- Bytes as a string. -/
def strB (l : List UInt8) : ByteArray := ⟨l.toArray⟩
theorem strB_toList (l : List UInt8) : (strB l).toList = l := by rw [ByteArray.toList_eq]; rfl
theorem conv_str {P : Program} {w : World} {src dst e : TypeId} (hs : P.underlying src = some (.slice e)) (he : P.underlying e = some (.int .u8)) (hd : P.underlying dst = some .string)
    {A : Option Addr} {l : List UInt8} (h : RB w A l) (n c : Nat) (hn : n = l.length) : (convert src dst (.slice A n c)).run P w = .ok (.string (strB l)) w := by
  subst hn
  cases l with
  | nil =>
    cases A with
    | none => exact run_convert_bytes_nil w src e hs he 0 c dst hd
    | some a =>
      rw [run_convert_bytes_string w src dst e _ _ c hs he hd]
      exact run_bytesToString w _ 0 c [] (by simp [loadCells, loadCellsFrom])
  | cons x r =>
    obtain ⟨b, o, rfl, hc⟩ := h.form (by simp)
    generalize x :: r = q at *
    have e1 := run_convert_bytes_arg (P := P) w src e hs he b o q.length c (q.map fun y => (y.toNat : Int)) (by simp) (fun i hi => by
      rw [hc i hi]
      simp [gb, List.getD_eq_getElem?_getD, List.getElem?_eq_getElem hi]) dst hd
    rw [e1]
    have e2 : strOfNums (q.map fun y => (y.toNat : Int)) = strB q := by
      unfold strOfNums strB
      rw [List.map_map]
      congr 2
      refine List.ext_getElem (by simp) fun i h1 h2 => ?_
      simp
    rw [e2]
end Go.Proofs.Ytjhnnnklfhbebaa
