/- Rows of numbers of one kind: read, owned, made, appended to, stored. No program. flumeref08: long numbers: times, more: the walks. flumeref08: above, root, Primes, Consts: the walks. flumeref08: Primes, Consts: the walks. -/
import Derived.Test.YtchbnablefoemaaDoorBlk
import Derived.Test.YtchbnablefoemaaDoorArr
import Derived.Test.YtchbnablefoemaaDoorInfoB
import Derived.Test.YtchbnablefoemaaDoorDigC
namespace Go.Proofs.YtchbnablefoemaaDoor
open Go.RowKit
set_option linter.unusedVariables false

def vn (k : IntKind) (x : Nat) : Value := .int k (x : Int)
/-- The list of numbers that a slice at A reads as. -/
def RN (k : IntKind) (w : World) (A : Option Addr) (l : List Nat) : Prop :=
  ∀ i, i < l.length → ∃ b o, A = some ⟨b, o, none⟩ ∧ w.cell? ⟨b, o + i, none⟩ = some (.int k (gw l i : Int))
theorem RN.ext {k : IntKind} {w w' : World} {A : Option Addr} {l : List Nat} (h : RN k w A l) (e : Below w.heap.size w w') : RN k w' A l := fun i hi => by
  obtain ⟨b, o, rfl, hc⟩ := h i hi
  exact ⟨b, o, rfl, (e.cell (p := ⟨b, o + i, none⟩) (World.block_lt_of_cell? w _ hc)).trans hc⟩
theorem RN.nil (k : IntKind) (w : World) (A : Option Addr) : RN k w A [] := fun i hi => absurd hi (by simp)
theorem gw_get (k : IntKind) (l : List Nat) (i : Nat) (h : i < l.length) : (l.map (vn k))[i]? = some (.int k (gw l i : Int)) := by
  simp [vn, gw, List.getD_eq_getElem?_getD, List.getElem?_eq_getElem h]
theorem RV.of_RN {k : IntKind} {w : World} {A : Option Addr} {l : List Nat} (h : RN k w A l) : RV w A (l.map (vn k)) := fun j u hj => by
  have hlt : j < l.length := by have := (List.getElem?_eq_some_iff.1 hj).1; simpa using this
  obtain ⟨b, o, rfl, hc⟩ := h j hlt
  rw [gw_get k l j hlt] at hj
  cases hj
  exact ⟨b, o, rfl, hc⟩
theorem RN.of_RV {k : IntKind} {w : World} {A : Option Addr} {l : List Nat} (h : RV w A (l.map (vn k))) : RN k w A l := fun i hi => h i _ (gw_get k l i hi)
/-- A row of the call's own. -/
def OwnN (k : IntKind) (base : Nat) (e : TypeId) (w : World) (v : Value) (l : List Nat) : Prop := w.ownsRow base e 1 v l.length (l.map (vn k))
section
variable {k : IntKind} {base base' : Nat} {e : TypeId} {w w' : World} {v : Value} {l : List Nat}
theorem OwnN.form (h : OwnN k base e w v l) : ∃ A c, v = .slice A l.length c ∧ RN k w A l ∧ l.length ≤ c ∧ c ≤ maxLen := by
  rcases h.2 with ⟨rfl, h0⟩ | ⟨g, cap, cur, rfl, _, _, hc, hm, _⟩
  · obtain rfl : l = [] := List.eq_nil_of_length_eq_zero h0
    exact ⟨none, 0, rfl, RN.nil _ _ _, Nat.le_refl _, Nat.zero_le _⟩
  · refine ⟨_, cap, rfl, RN.of_RV fun j u hj => ⟨g, 0, rfl, ?_⟩, hc, hm⟩
    have := h.cells (g := g) rfl j u hj
    rw [show (⟨g, 0, none⟩ : Addr).add j = ⟨g, 0 + j, none⟩ by unfold Addr.add; split <;> simp_all] at this
    exact this
theorem OwnN.ext (h : OwnN k base e w v l) (kk : Below w.heap.size w w') : OwnN k base e w' v l :=
  World.ownsRow.kept (row := none) h ⟨kk.os, kk.tape, kk.output, kk.size, fun i hi _ => kk.block i hi⟩ (by cases v.ownBlock <;> simp)
theorem OwnN.other (h : OwnN k base e w v l) {row : Option Nat} (kk : w.grownBy w' row) (hne : v.ownBlock = none ∨ v.ownBlock ≠ row) : OwnN k base e w' v l := World.ownsRow.kept h kk hne
theorem OwnN.mono (h : OwnN k base e w v l) (hb : base' ≤ base) : OwnN k base' e w v l :=
  ⟨h.1, h.2.imp id fun ⟨g, cap, cur, a, b, c⟩ => ⟨g, cap, cur, a, Nat.le_trans hb b, c⟩⟩
theorem OwnN.nil (k : IntKind) (base : Nat) (e : TypeId) (w : World) : OwnN k base e w (.slice none 0 0) [] := World.ownsRow_nil w base e 1
theorem OwnN.block (h : OwnN k base e w v l) (h0 : 0 < l.length) : ∃ g c, v = .slice (some ⟨g, 0, none⟩) l.length c ∧ base ≤ g ∧ g < w.heap.size ∧ l.length ≤ c ∧ c ≤ maxLen := by
  rcases h.2 with ⟨rfl, h1⟩ | ⟨g, cap, cur, rfl, hb, hh, hc, hm, _⟩
  · omega
  · exact ⟨g, cap, rfl, hb, (Array.getElem?_eq_some_iff.1 hh).1, hc, hm⟩
theorem OwnN.lit (k : IntKind) (base : Nat) (e : TypeId) (w : World) (l : List Nat) (hb : base ≤ w.heap.size) (hm : l.length ≤ maxLen) :
    OwnN k base e (w.alloc (.cells (l.map (vn k)).toArray e)) (.slice (some ⟨w.heap.size, 0, none⟩) l.length l.length) l := by
  have := World.ownsRow_lit (base := base) (e := e) (size := 1) w (l.map (vn k)).toArray l.length hb hm (by simp)
  simpa [OwnN] using this
theorem OwnN.set {g c n : Nat} (h : OwnN k base e w (.slice (some ⟨g, 0, none⟩) n c) l) (j x : Nat) :
    OwnN k base e (w.setCell ⟨g, j, none⟩ (.int k (x : Int))) (.slice (some ⟨g, 0, none⟩) n c) (l.set j x) := by
  unfold OwnN at h ⊢
  have hn : l.length = n := by
    rcases h.2 with ⟨h', _⟩ | ⟨_, _, _, h', _⟩
    · cases h'
    · cases h'; rfl
  subst hn
  have := (World.ownsRow.stored h j (vn k x)).1
  rw [List.length_set, List.map_set]
  exact this
theorem OwnN.lt (h : OwnN k base e w v l) : ∀ i, v.ownBlock = some i → base ≤ i ∧ i < w.heap.size := World.ownsRow.lt h
theorem OwnN.cell {g n c : Nat} (h : OwnN k base e w (.slice (some ⟨g, 0, none⟩) n c) l) (j : Nat) (hj : j < l.length) :
    w.cell? ⟨g, j, none⟩ = some (.int k (gw l j : Int)) ∧ w.frozen? ⟨g, j, none⟩ = false := by
  unfold OwnN at h
  have hn : l.length = n := by
    rcases h.2 with ⟨h', _⟩ | ⟨_, _, _, h', _⟩
    · cases h'
    · cases h'; rfl
  subst hn
  exact ⟨(World.ownsRow.cellAt h j (by omega)).trans (gw_get k l j hj), World.ownsRow.frozenAt h j⟩
theorem OwnN.below {w0 : World} (h : OwnN k base e w v l) (hB : Below base w0 w) (hg : w.grownBy w' v.ownBlock) (hb : base ≤ w.heap.size) : Below base w0 w' := hB.grown hg hb fun i hi => (h.lt i hi).1
end
theorem vn_one (k : IntKind) (l : List Nat) : ∀ u ∈ l.map (vn k), u.oneCell' = true := by
  intro u hu
  obtain ⟨x, _, rfl⟩ := List.mem_map.1 hu
  rfl
theorem RN.lit1 (k : IntKind) (w : World) (e : TypeId) (x : Nat) : RN k (w.alloc (.cells #[.int k (x : Int)] e)) (some ⟨w.heap.size, 0, none⟩) [x] := fun i hi => by
  obtain rfl : i = 0 := by simpa using hi
  exact ⟨_, _, rfl, (BK.new w e [.int k (x : Int)]).cell (i := 0) rfl⟩
/-- append of numbers. -/
theorem wpList_appN {k : IntKind} {P : Program} {w : World} {ops : Array Oper} {rest : List Oper} {o : Oper} {a : Act} {Q : Exit → Act → World → Prop} (hgd : o.guard = none) (s x : Operand) (t : TypeId)
    (ho : o.op = .call { callee := .builtin .append, args := #[s, x], argTypes := #[t, t] })
    (base : Nat) (e : TypeId) (ht : P.underlying t = some (.slice e)) (bytes : Nat) (hb0 : 0 < bytes) (hinfo : (P.info? e).map (fun i => (i.zero, i.size, i.bytes)) = some (some (.int k 0), 1, bytes))
    (v : Value) (l1 : List Nat) (hs : a.eval s = v) (hown : OwnN k base e w v l1)
    (A : Option Addr) (m c : Nat) (l2 : List Nat) (hx : a.eval x = .slice A m c) (hm : l2.length = m) (hr : RN k w A l2)
    (hbytes : (l1.length + l2.length) * bytes ≤ 140737488355328) (hbase : base ≤ w.heap.size)
    (h : ∀ v' w', OwnN k base e w' v' (l1 ++ l2) → w.grownBy w' v.ownBlock → (v'.ownBlock = v.ownBlock ∨ v'.ownBlock = some w.heap.size) → wpList P ops Q rest (a.put o.dst v') w') :
    wpList P ops Q (o :: rest) a w := by
  subst hm
  refine wpList_app hgd s x t ho base e (.int k 0) bytes ht hinfo rfl hb0 v l1.length (l1.map (vn k)) hs hown A l2.length c (l2.map (vn k)) hx (by simp) (RV.of_RN hr) (vn_one k l2) (by omega) hbase fun v' w' h2 h3 h4 => h v' w' ?_ h3 h4
  unfold OwnN
  rw [List.length_append, List.map_append]
  exact h2
/-- 'make([]T, n)'. -/
theorem wpList_makeN {k : IntKind} {P : Program} {w : World} {ops : Array Oper} {rest : List Oper} {o : Oper} {a : Act} {Q : Exit → Act → World → Prop}
    (hg : o.guard = none) (l c : Operand) (t : TypeId) (hop : o.op = Op.makeSlice t l c)
    (base : Nat) (e : TypeId) (h1 : P.underlying t = some (.slice e)) (bytes : Nat) (hb0 : 0 < bytes) (hinfo : (P.info? e).map (fun i => (i.zero, i.size, i.bytes)) = some (some (.int k 0), 1, bytes))
    (kl kc : IntKind) (L C : Int) (n : Nat) (hl : a.eval l = .int kl L) (hc : a.eval c = .int kc C) (hL : L = (n : Int)) (hC : C = (n : Int)) (b2 : n * bytes ≤ 140737488355328) (b4 : base ≤ w.heap.size)
    (hK : ∀ w', OwnN k base e w' (.slice (some ⟨w.heap.size, 0, none⟩) n n) (List.replicate n 0) → w.grownBy w' none → wpList P ops Q rest (a.put o.dst (.slice (some ⟨w.heap.size, 0, none⟩) n n)) w') :
    wpList P ops Q (o :: rest) a w := by
  obtain ⟨i, hi, hz, hsize, hby⟩ := info_parts hinfo
  have hn : n ≤ 140737488355328 := Nat.le_trans (Nat.le_mul_of_pos_right _ hb0) b2
  refine wpList_make_full w hg l c t hop base e i _ 1 h1 hi hz hsize kl kc L C n hl hc hL hC (by rw [hby, Nat.mul_comm]; omega) (by simp only [maxLen]; omega) b4 fun w' h2 h3 => hK w' ?_ h3
  unfold OwnN
  rw [List.length_replicate, List.map_replicate]
  rw [show (Value.int k 0).cells = #[Value.int k 0] from rfl, toList_madeCells_one, Nat.mul_one] at h2
  exact h2
end Go.Proofs.YtchbnablefoemaaDoor
namespace Go.Proofs.YtchbnablefoemaaDoor
open Go.RowKit
set_option linter.unusedVariables false

/-! ### plain: digits to the base 65536 -/
def dv : List Nat → Nat
  | [] => 0
  | x :: r => x + 65536 * dv r
def Dg (l : List Nat) : Prop := ∀ i, gw l i < 65536
theorem gw_cons (x : Nat) (r : List Nat) (i : Nat) : gw (x :: r) (i + 1) = gw r i := by simp [gw]
theorem gw_zero (x : Nat) (r : List Nat) : gw (x :: r) 0 = x := rfl
theorem Dg.tail {x : Nat} {r : List Nat} (h : Dg (x :: r)) : Dg r := fun i => by have := h (i + 1); rwa [gw_cons] at this
theorem gw_over {l : List Nat} {i : Nat} (h : l.length ≤ i) : gw l i = 0 := by unfold gw; rw [List.getD_eq_getElem?_getD, List.getElem?_eq_none h]; rfl
theorem Dg.set {l : List Nat} (h : Dg l) (j : Nat) {x : Nat} (hx : x < 65536) : Dg (l.set j x) := fun i => by
  by_cases hj : j < l.length
  · rw [gw_set l j x i hj]; split
    · exact hx
    · exact h i
  · rw [List.set_eq_of_length_le (by omega)]; exact h i
theorem Dg.zeros (n : Nat) : Dg (List.replicate n 0) := fun i => by
  unfold gw
  rw [List.getD_eq_getElem?_getD, List.getElem?_replicate]
  split <;> simp
theorem dv_set : ∀ (l : List Nat) (j x : Nat), j < l.length → dv (l.set j x) + gw l j * 65536 ^ j = dv l + x * 65536 ^ j
  | [], j, x, h => by simp at h
  | y :: r, 0, x, h => by simp [dv, gw]; omega
  | y :: r, j + 1, x, h => by
    have := dv_set r j x (by simpa using h)
    rw [gw_cons, List.set_cons_succ, dv, dv, Nat.pow_succ]
    have e1 : gw r j * (65536 ^ j * 65536) = 65536 * (gw r j * 65536 ^ j) := by rw [← Nat.mul_assoc, Nat.mul_comm]
    have e2 : x * (65536 ^ j * 65536) = 65536 * (x * 65536 ^ j) := by rw [← Nat.mul_assoc, Nat.mul_comm]
    rw [e1, e2]
    omega
theorem dv_zeros (n : Nat) : dv (List.replicate n 0) = 0 := by
  induction n with
  | zero => rfl
  | succ n ih => rw [List.replicate_succ, dv, ih]
theorem dv_lt : ∀ (l : List Nat), Dg l → dv l < 65536 ^ l.length
  | [], _ => by simp [dv]
  | x :: r, h => by
    have h1 := dv_lt r h.tail
    have h2 : x < 65536 := h 0
    rw [dv, List.length_cons, Nat.pow_succ]
    omega
theorem dv_append : ∀ (l m : List Nat), dv (l ++ m) = dv l + 65536 ^ l.length * dv m
  | [], m => by simp [dv]
  | x :: r, m => by
    rw [List.cons_append, dv, dv_append r m, dv, List.length_cons, Nat.pow_succ, Nat.mul_add, Nat.add_assoc]
    congr 2
    rw [← Nat.mul_assoc, Nat.mul_comm 65536]
theorem dv_take (l : List Nat) (i : Nat) (h : i < l.length) : dv (l.take (i + 1)) = dv (l.take i) + gw l i * 65536 ^ i := by
  rw [List.take_add_one, dv_append, List.getElem?_eq_getElem h]
  simp only [Option.toList_some, dv, List.length_take, Nat.mul_zero, Nat.add_zero]
  rw [Nat.min_eq_left (by omega), Nat.mul_comm]
  congr 2
  unfold gw
  rw [List.getD_eq_getElem?_getD, List.getElem?_eq_getElem h]; rfl
theorem Dg.take {l : List Nat} (h : Dg l) (n : Nat) : Dg (l.take n) := fun i => by
  unfold gw
  rw [List.getD_eq_getElem?_getD, List.getElem?_take]
  split
  · have := h i; unfold gw at this; rwa [List.getD_eq_getElem?_getD] at this
  · simp
/-- A step inside: the digit, and what is carried on. -/
theorem dv_step {o : List Nat} {k li x c V : Nat} (hk : k < o.length) (h : dv o + 65536 ^ k * (c + li * x) = V) (s : Nat) (hs : s = gw o k + li * (x % 65536) + c) :
    dv (o.set k (s % 65536)) + 65536 ^ (k + 1) * (s / 65536 + li * (x / 65536)) = V := by
  have h1 := dv_set o k (s % 65536) hk
  have h2 : x = x % 65536 + 65536 * (x / 65536) := by omega
  have h3 : s = s % 65536 + 65536 * (s / 65536) := by omega
  have e : 65536 ^ (k + 1) * (s / 65536 + li * (x / 65536)) = 65536 ^ k * (65536 * (s / 65536)) + 65536 ^ k * (li * (65536 * (x / 65536))) := by
    rw [Nat.pow_succ, Nat.mul_assoc, Nat.mul_add, Nat.mul_add]
    congr 2
    rw [Nat.mul_left_comm]
  rw [e]
  have e2 : 65536 ^ k * (c + li * x) = 65536 ^ k * c + 65536 ^ k * (li * (x % 65536)) + 65536 ^ k * (li * (65536 * (x / 65536))) := by
    conv => lhs; rw [h2]
    rw [Nat.mul_add li, ← Nat.add_assoc, Nat.mul_add, Nat.mul_add]
  have e3 : 65536 ^ k * (65536 * (s / 65536)) + (s % 65536) * 65536 ^ k = 65536 ^ k * s := by
    conv => rhs; rw [h3]
    rw [Nat.mul_add, Nat.mul_comm (s % 65536)]
    omega
  have e4 : 65536 ^ k * s = gw o k * 65536 ^ k + 65536 ^ k * (li * (x % 65536)) + 65536 ^ k * c := by
    rw [hs, Nat.mul_add, Nat.mul_add, Nat.mul_comm _ (gw o k)]
  rw [e2] at h
  omega
theorem dv_end {o l : List Nat} {i r c li x : Nat} (hl : Dg l) (hi : i < l.length) (ho : o.length = l.length + 4) (hr : r < 274877906944) (h : dv o + 65536 ^ (l.length + 4) * (c + li * x) = dv (l.take (i + 1)) * r) : dv o = dv (l.take (i + 1)) * r := by
  have h1 := dv_lt _ (hl.take (i + 1))
  rw [List.length_take, Nat.min_eq_left (by omega)] at h1
  have h2 : dv (l.take (i + 1)) * r < 65536 ^ (i + 1) * 65536 ^ 3 := Nat.mul_lt_mul_of_lt_of_le h1 (by omega) (by omega)
  rw [← Nat.pow_add] at h2
  have h3 : 65536 ^ (i + 1 + 3) ≤ 65536 ^ (l.length + 4) := Nat.pow_le_pow_right (by omega) (by omega)
  have h4 : c + li * x = 0 := by
    cases hz : c + li * x with
    | zero => rfl
    | succ z =>
      exfalso
      rw [hz, Nat.mul_add, Nat.mul_one] at h
      omega
  rw [h4, Nat.mul_zero] at h
  omega

theorem tmod_nat (n m : Nat) : ((n : Int).tmod (m : Int)) = ((n % m : Nat) : Int) := by rw [Int.tmod_eq_emod_of_nonneg (by omega)]; rfl
theorem infoI : (Tryd.prog.info? 3).map (fun i => (i.zero, i.size, i.bytes)) = some (some (.int .i64 0), 1, 8) := by kernel_rfl

set_option maxRecDepth 100000 in
set_option maxHeartbeats 2000000 in
theorem times_calls (A : Option Addr) (c n : Nat) (l : List Nat) (hn : l.length = n) (w : World) (h : RN .i64 w A l) (hl : n ≤ 1000) (hd : Dg l) (r : Nat) (hr : r < 274877906944) :
    Calls Tryd.prog 30 #[.slice A n c, .int .i64 (r : Int)] w fun e w' => ∃ v o, e = .returned v ∧ OwnN .i64 w.heap.size 3 w' v o ∧ o.length = n + 4 ∧ Dg o ∧ dv o = dv l * r ∧ Below w.heap.size w w' := by
  have H := Lib.hid h
  have HN := Lib.hid hn
  have HD := Lib.hid hd
  clear h hn hd
  go_enter Tryd.func30, Tryd.ntmps30
  go_wp2_with (at_make; refine wpList_makeN rfl _ _ _ rfl w.heap.size 3 Tryd.underlying58 8 (by decide) infoI _ _ _ _ (n + 4) rfl rfl (by omega) (by omega) (by omega) (Nat.le_refl _) ?_)
  intro w1 ho hg
  have hb := grown_none (Below.refl w.heap.size w) hg (Nat.le_refl _)
  have HO := Lib.hid ho
  have HB := Lib.hid hb
  clear ho hg hb
  go_wp2_with fail
  go_loopw [17] (fun i W => ∃ (k : Nat) (o : List Nat), k ≤ n ∧ i = .int .i64 k ∧ Hid (o.length = n + 4) ∧ Hid (OwnN .i64 w.heap.size 3 W (.slice (some ⟨w.heap.size, 0, none⟩) (n + 4) (n + 4)) o) ∧ Hid (Dg o) ∧ Hid (dv o = dv (l.take k) * r) ∧ Hid (Below w.heap.size w W)) (fun i _ => n - (intOf i).toNat)
  case atStart => exact ⟨0, List.replicate (n + 4) 0, Nat.zero_le _, rfl, Lib.hid (by simp), HO, Lib.hid (Dg.zeros _), Lib.hid (by rw [dv_zeros]; simp [dv]), HB⟩
  case round =>
    clear HO HB
    obtain ⟨k, o, hk, rfl, HL, HO, HDO, HV, HB⟩ := hrel
    by_cases hkn : k < n
    · have hli := HD.out k
      have HTK : Hid (dv (l.take (k + 1)) = dv (l.take k) + gw l k * 65536 ^ k) := Lib.hid (dv_take l k (by rw [HN.out]; exact hkn))
      obtain ⟨b, ob, rfl, _⟩ := H.out k (by rw [HN.out]; exact hkn)
      obtain ⟨li, hlv⟩ : ∃ x, gw l k = x := ⟨_, rfl⟩
      rw [hlv] at hli HTK
      have HLV := Lib.hid hlv
      clear hlv
      obtain ⟨V, hV⟩ : ∃ V, dv (l.take (k + 1)) * r = V := ⟨_, rfl⟩
      have HVV := Lib.hid hV
      have HV0 : Hid (dv o + 65536 ^ k * (0 + li * r) = V) := Lib.hid (by
        rw [← hV, HTK.out, HV.out, Nat.zero_add, Nat.add_mul]
        congr 1
        rw [← Nat.mul_assoc, Nat.mul_comm (65536 ^ k)])
      clear hV
      go_wp2_with fail
      go_loopw [7, 8, 9] (fun vx vc vk W => ∃ (x c j : Nat) (o : List Nat), vx = .int .i64 x ∧ vc = .int .i64 c ∧ vk = .int .i64 j ∧ x < 274877906944 ∧ c ≤ 65535 ∧ j ≤ n + 4 ∧ Hid (o.length = n + 4) ∧ Hid (OwnN .i64 w.heap.size 3 W (.slice (some ⟨w.heap.size, 0, none⟩) (n + 4) (n + 4)) o) ∧ Hid (Dg o) ∧ Hid (dv o + 65536 ^ j * (c + li * x) = V) ∧ Hid (Below w.heap.size w W)) (fun _ _ vk _ => n + 4 - (intOf vk).toNat)
      case atStart => exact ⟨r, 0, k, o, rfl, rfl, rfl, hr, by omega, by omega, HL, HO, HDO, HV0, HB⟩
      case round =>
        clear HO HB HDO HV HL HV0
        obtain ⟨x, cc, j, o, rfl, rfl, rfl, hx, hcc, hj, HL, HO, HDO, HV, HB⟩ := hrel
        by_cases hjn : j < n + 4
        · obtain ⟨b', o', e', hcell⟩ := (H.out.ext HB.out) k (by rw [HN.out]; exact hkn)
          cases e'
          rw [HLV.out] at hcell
          obtain ⟨hcj, hfj⟩ := HO.out.cell j (by rw [HL.out]; exact hjn)
          have hoj := HDO.out j
          obtain ⟨a, ha⟩ : ∃ x, gw o j = x := ⟨_, rfl⟩
          rw [ha] at hcj hoj
          have HA := Lib.hid ha
          obtain ⟨xm, hxm⟩ : ∃ m, x % 65536 = m := ⟨_, rfl⟩
          have hxl : xm < 65536 := by omega
          obtain ⟨pr, hpr⟩ : ∃ p, li * xm = p := ⟨_, rfl⟩
          have hprl : pr ≤ 65535 * 65535 := by rw [← hpr]; exact Nat.mul_le_mul (by omega) (by omega)
          have e1 : (x : Int).tmod 65536 = (xm : Int) := by rw [← hxm]; exact tmod_nat x 65536
          have e2 : (li : Int) * (xm : Int) = (pr : Int) := by rw [← hpr]; rfl
          obtain ⟨s, hs⟩ : ∃ s, a + pr + cc = s := ⟨_, rfl⟩
          have e3 : (a : Int) + (pr : Int) + (cc : Int) = (s : Int) := by omega
          have hsl : s < 4294967296 := by omega
          have HST : Hid (dv (o.set j (s % 65536)) + 65536 ^ (j + 1) * (s / 65536 + li * (x / 65536)) = V) := Lib.hid (dv_step (by rw [HL.out]; exact hjn) HV.out s (by rw [HA.out, hxm, hpr, hs]))
          have em : ((s % 65536 : Nat) : Int) = (s : Int) % 65536 := by omega
          have hset := HO.out.set j (s % 65536)
          rw [em] at hset
          have HSET := Lib.hid (hset.ext (Below.refl _ _).drew)
          have HBS := Lib.hid ((HB.out.setCell (p := ⟨w.heap.size, j, none⟩) (Nat.le_refl _) (.int .i64 ((s : Int) % 65536))).drew)
          have HDO2 := Lib.hid (HDO.out.set j (show s % 65536 < 65536 by omega))
          clear ha hxm hpr hs HO HDO HV em hset
          go_wp2_with fail
          go_region
          have hcj2 : wr.drew.cell? ⟨w.heap.size, j, none⟩ = some (.int .i64 (a : Int)) := hcj
          have hfj2 : wr.drew.frozen? ⟨w.heap.size, j, none⟩ = false := hfj
          clear hcell hcj hfj e1 e2 e3
          go_wp2_with fail
          exact ⟨⟨x / 65536, s / 65536, j + 1, o.set j (s % 65536), by go_num, by go_num, by go_num, by omega, by omega, by omega, Lib.hid (by rw [List.length_set]; exact HL.out), HSET, HDO2, HST, HBS⟩, by simp [intOf]; omega⟩
        · obtain rfl : j = n + 4 := by omega
          have HV2 : Hid (dv o = dv (l.take (k + 1)) * r) := Lib.hid (dv_end (c := cc) (li := li) (x := x) HD.out (by rw [HN.out]; exact hkn) (by rw [HN.out]; exact HL.out) hr (by rw [HN.out, HVV.out]; exact HV.out))
          go_wp2_with fail
          exact ⟨⟨k + 1, o, by omega, by go_num, HL, HO, HDO, HV2, HB⟩, by simp [intOf]; omega⟩
    · obtain rfl : k = n := by omega
      have HV2 : Hid (dv o = dv l * r) := Lib.hid (by rw [HV.out, ← HN.out, List.take_length])
      go_wp2
      go_ret
      exact ⟨_, o, rfl, HO.out, HL.out, HDO.out, HV2.out, HB.out⟩

/-- The number's part above place m, as it stands. -/
def dvTo (l : List Nat) : Nat → Nat
  | 0 => 0
  | k + 1 => dvTo l k + gw l k * 65536 ^ k
theorem dvTo_lt {l : List Nat} (h : Dg l) (k : Nat) : dvTo l k < 65536 ^ k := by
  induction k with
  | zero => simp [dvTo]
  | succ k ih =>
    have h1 := h k
    have h2 : gw l k * 65536 ^ k ≤ 65535 * 65536 ^ k := Nat.mul_le_mul_right _ (by omega)
    rw [dvTo, Nat.pow_succ]
    omega
theorem dvTo_all (l : List Nat) : ∀ k, l.length ≤ k → dvTo l k = dv l := by
  have h : ∀ k, k ≤ l.length → dvTo l k = dv (l.take k) := by
    intro k
    induction k with
    | zero => intro _; simp [dvTo, dv]
    | succ k ih => intro hk; rw [dvTo, ih (by omega), dv_take l k (by omega)]
  intro k hk
  obtain ⟨d, rfl⟩ : ∃ d, k = l.length + d := ⟨k - l.length, by omega⟩
  clear hk
  induction d with
  | zero => rw [Nat.add_zero, h _ (Nat.le_refl _), List.take_length]
  | succ d ih => rw [← Nat.add_assoc, dvTo, ih, gw_over (by omega), Nat.zero_mul, Nat.add_zero]
/-- Numbers that are alike above place k, and not there. -/
theorem dv_gt {a b : List Nat} (ha : Dg a) (hb : Dg b) {n k : Nat} (hn : k < n) (h : ∀ i, k < i → gw a i = gw b i) (hk : gw b k < gw a k) : dvTo b n < dvTo a n := by
  obtain ⟨d, rfl⟩ : ∃ d, n = k + 1 + d := ⟨n - (k + 1), by omega⟩
  clear hn
  induction d with
  | zero =>
    have h1 := dvTo_lt hb k
    have h2 : (gw b k + 1) * 65536 ^ k ≤ gw a k * 65536 ^ k := Nat.mul_le_mul_right _ hk
    rw [Nat.add_mul] at h2
    simp only [dvTo]
    omega
  | succ d ih =>
    have e1 : dvTo a (k + 1 + (d + 1)) = dvTo a (k + 1 + d) + gw a (k + 1 + d) * 65536 ^ (k + 1 + d) := rfl
    have e2 : dvTo b (k + 1 + (d + 1)) = dvTo b (k + 1 + d) + gw b (k + 1 + d) * 65536 ^ (k + 1 + d) := rfl
    rw [e1, e2, h (k + 1 + d) (by omega)]
    omega
theorem dv_same {a b : List Nat} (h : ∀ i, gw a i = gw b i) (n : Nat) : dvTo a n = dvTo b n := by
  induction n with
  | zero => rfl
  | succ n ih => rw [dvTo, dvTo, ih, h n]

set_option maxRecDepth 100000 in
set_option maxHeartbeats 2000000 in
theorem more_calls (A B : Option Addr) (c d n m : Nat) (a b : List Nat) (hn : a.length = n) (hm : b.length = m) (w : World) (h : RN .i64 w A a) (k : RN .i64 w B b) (hl : n ≤ 1000) (hl2 : m ≤ 1000) (hda : Dg a) (hdb : Dg b) :
    Calls Tryd.prog 31 #[.slice A n c, .slice B m d] w fun e w' => e = .returned (.bool (decide (dv b < dv a))) ∧ w = w' := by
  have H := Lib.hid h
  have K := Lib.hid k
  have HN := Lib.hid hn
  have HM := Lib.hid hm
  have HDA := Lib.hid hda
  have HDB := Lib.hid hdb
  obtain ⟨M, hM⟩ : ∃ M, n + m = M := ⟨_, rfl⟩
  have EA : Hid (dvTo a M = dv a) := Lib.hid (dvTo_all a M (by omega))
  have EB : Hid (dvTo b M = dv b) := Lib.hid (dvTo_all b M (by omega))
  have HMM := Lib.hid hM
  have HOA : Hid (∀ i, n ≤ i → gw a i = 0) := Lib.hid fun i hi => gw_over (by omega)
  have HOB : Hid (∀ i, m ≤ i → gw b i = 0) := Lib.hid fun i hi => gw_over (by omega)
  have hgo : ∀ (j i : Nat), j = i + 1 → (∀ x, j ≤ x → gw a x = gw b x) → gw a i ≠ gw b i → i < M → decide (gw b i < gw a i) = decide (dv b < dv a) := by
    intro j i hj hs hne hi
    rcases Nat.lt_or_ge (gw b i) (gw a i) with h1 | h1
    · have := dv_gt hda hdb hi (fun x hx => hs x (by omega)) h1
      rw [EA.out, EB.out] at this
      simp [h1, this]
    · have := dv_gt hdb hda hi (fun x hx => (hs x (by omega)).symm) (by omega)
      rw [EA.out, EB.out] at this
      simp [show ¬ gw b i < gw a i by omega, show ¬ dv b < dv a by omega]
  have HGO := Lib.hid hgo
  have HEND : Hid ((∀ i, gw a i = gw b i) → decide (dv b < dv a) = false) := Lib.hid fun hs => by
    have := dv_same hs M
    rw [EA.out, EB.out] at this
    simp [this]
  clear h k hn hm hda hdb hM hgo
  rcases Nat.lt_or_ge n m with h0 | h0
  all_goals
    go_enter Tryd.func31, Tryd.ntmps31
    go_wp2_with fail
    go_loop [6] (fun v => ∃ j : Nat, j ≤ n + m ∧ v = .int .i64 ((j : Int) - 1) ∧ (j ≤ n ∨ j ≤ m) ∧ Hid (∀ i, j ≤ i → gw a i = gw b i)) (fun v => (intOf v + 1).toNat)
    case atStart => first
      | exact ⟨n, by omega, rfl, by omega, Lib.hid fun i hi => by rw [HOA.out i hi, HOB.out i (by omega)]⟩
      | exact ⟨m, by omega, rfl, by omega, Lib.hid fun i hi => by rw [HOB.out i hi, HOA.out i (by omega)]⟩
    case round =>
      obtain ⟨j, hj, rfl, hj2, HS⟩ := hrel
      rcases j with _ | i
      · go_wp2
        go_ret
        exact ⟨ret_bool (HEND.out fun i => HS.out i (by omega)).symm, rfl⟩
      · rw [show ((i + 1 : Nat) : Int) - 1 = (i : Int) by omega]
        have HG := Lib.hid (HGO.out (i + 1) i rfl HS.out)
        have HSI : Hid (gw a i = gw b i → ∀ x, i ≤ x → gw a x = gw b x) := Lib.hid fun e x hx => by
          rcases Nat.eq_or_lt_of_le hx with rfl | h1
          · exact e
          · exact HS.out x h1
        have hM2 : i < M := by have := HMM.out; omega
        clear HS HGO
        by_cases ha : i < n
        · obtain ⟨b1, o1, rfl, hc1⟩ := H.out i (by rw [HN.out]; exact ha)
          by_cases hb : i < m
          · obtain ⟨b2, o2, rfl, hc2⟩ := K.out i (by rw [HM.out]; exact hb)
            obtain ⟨x, hx⟩ : ∃ x, gw a i = x := ⟨_, rfl⟩
            obtain ⟨y, hy⟩ : ∃ y, gw b i = y := ⟨_, rfl⟩
            rw [hx] at hc1 HG HSI
            rw [hy] at hc2 HG HSI
            clear hx hy
            by_cases e : x = y
            · subst e
              go_wp2
              all_goals exact ⟨⟨i, by omega, by go_num, by omega, Lib.hid (HSI.out rfl)⟩, by first | (simp [intOf]; done) | (simp [intOf]; omega)⟩
            · have d1 : (((x : Nat) : Int) == (y : Int)) = false := beq_eq_false_iff_ne.2 (by omega)
              have hg := HG.out e hM2
              have HR := Lib.hid hg
              clear hg
              go_wp2
              all_goals (go_ret; exact ⟨ret_bool HR.out, rfl⟩)
          · have hy := HOB.out i (by omega)
            obtain ⟨x, hx⟩ : ∃ x, gw a i = x := ⟨_, rfl⟩
            obtain ⟨y, hy0⟩ : ∃ y : Nat, y = 0 := ⟨_, rfl⟩
            rw [hx] at hc1 HG HSI
            rw [hy] at HG HSI
            clear hx hy
            by_cases e : x = 0
            · subst e
              go_wp2
              all_goals exact ⟨⟨i, by omega, by go_num, by omega, Lib.hid (HSI.out rfl)⟩, by first | (simp [intOf]; done) | (simp [intOf]; omega)⟩
            · have d1 : (((x : Nat) : Int) == 0) = false := beq_eq_false_iff_ne.2 (by omega)
              have hg := HG.out e hM2
              have HR := Lib.hid hg
              clear hg
              go_wp2
              all_goals (go_ret; exact ⟨ret_bool HR.out, rfl⟩)
        · have hx := HOA.out i (by omega)
          have hb : i < m := by omega
          obtain ⟨b2, o2, rfl, hc2⟩ := K.out i (by rw [HM.out]; exact hb)
          obtain ⟨y, hy⟩ : ∃ y, gw b i = y := ⟨_, rfl⟩
          rw [hy] at hc2 HG HSI
          rw [hx] at HG HSI
          clear hx hy
          by_cases e : y = 0
          · subst e
            go_wp2
            all_goals exact ⟨⟨i, by omega, by go_num, by omega, Lib.hid (HSI.out rfl)⟩, by first | (simp [intOf]; done) | (simp [intOf]; omega)⟩
          · have d1 : ((0 : Int) == ((y : Nat) : Int)) = false := beq_eq_false_iff_ne.2 (by omega)
            have d2 : (((y : Nat) : Int) == 0) = false := beq_eq_false_iff_ne.2 (by omega)
            have hg := HG.out (fun k => e k.symm) hM2
            have HR := Lib.hid hg
            clear hg
            go_wp2
            all_goals (go_ret; exact ⟨ret_bool HR.out, rfl⟩)
end Go.Proofs.YtchbnablefoemaaDoor
namespace Go.Proofs.YtchbnablefoemaaDoor
open Go.RowKit
set_option linter.unusedVariables false

theorem times_n (A : Option Addr) (c n : Nat) (l : List Nat) (hn : l.length = n) (w : World) (h : RN .i64 w A l) (hl : n ≤ 1000) (hd : Dg l) (r : Nat) (hr : r < 274877906944) :
    Calls Tryd.prog 30 #[.slice A n c, .int .i64 (r : Int)] w fun e w' => ∃ A' c' o, e = .returned (.slice A' (n + 4) c') ∧ RN .i64 w' A' o ∧ o.length = n + 4 ∧ Dg o ∧ dv o = dv l * r ∧ Below w.heap.size w w' := by
  refine (times_calls A c n l hn w h hl hd r hr).mono ?_
  rintro e w' ⟨v, o, rfl, ho, h1, h2, h3, h4⟩
  obtain ⟨A', c', hv, hr, _⟩ := ho.form
  rw [h1] at hv
  exact ⟨A', c', o, by rw [hv], hr, h1, h2, h3, h4⟩
theorem Dg.one {x : Nat} (h : x < 65536) : Dg [x] := fun i => by
  cases i with
  | zero => exact h
  | succ i => rw [gw_cons]; simp [gw]
theorem Dg.append {a b : List Nat} (ha : Dg a) (hb : Dg b) : Dg (a ++ b) := fun i => by
  unfold gw
  rw [List.getD_eq_getElem?_getD, List.getElem?_append]
  split
  · have := ha i; unfold gw at this; rwa [List.getD_eq_getElem?_getD] at this
  · have := hb (i - a.length); unfold gw at this; rwa [List.getD_eq_getElem?_getD] at this

set_option maxRecDepth 100000 in
set_option maxHeartbeats 2000000 in
theorem above_calls (r n dg : Nat) (hr : r < 274877906944) (hn : n < 65536) (hd : dg ≤ 100) (w : World) :
    Calls Tryd.prog 29 #[.int .i64 (r : Int), .int .i64 (n : Int), .int .i64 (dg : Int)] w fun e w' => e = .returned (.bool (decide (n * 65536 ^ (2 * dg) < r ^ dg))) ∧ Below w.heap.size w w' := by
  go_enter Tryd.func29, Tryd.ntmps29
  go_wp2_with fail
  have H0 : Hid (RN .i64 (w.alloc (.cells #[.int .i64 1] 3)) (some ⟨w.heap.size, 0, none⟩) [1]) := Lib.hid (RN.lit1 .i64 w _ 1)
  go_loopw [7, 11] (fun v i W => ∃ (k m c : Nat) (A : Option Addr) (o : List Nat), k ≤ dg ∧ i = .int .i64 k ∧ v = .slice A m c ∧ m ≤ 4 * k + 1 ∧ Hid (o.length = m) ∧ Hid (RN .i64 W A o) ∧ Hid (Dg o) ∧ Hid (dv o = r ^ k) ∧ Hid (Below w.heap.size w W)) (fun _ i _ => dg - (intOf i).toNat)
  case atStart => exact ⟨0, 1, 1, _, [1], Nat.zero_le _, rfl, rfl, by omega, Lib.hid rfl, H0, Lib.hid (Dg.one (by decide)), Lib.hid rfl, Lib.hid (ext_alloc _ _)⟩
  case round =>
    clear H0
    obtain ⟨k, m, c, A, o, hk, rfl, rfl, hm, HL, HO, HD, HV, HB⟩ := hrel
    by_cases hkd : k < dg
    · go_wp2_with fail
      refine (times_n A c m o HL.out wr HO.out (by omega) HD.out r hr).mono ?_
      rintro e w2 ⟨A', c', o', rfl, hO, hl, hd', hv, hb⟩
      have HO2 := Lib.hid hO
      have HL2 := Lib.hid hl
      have HD2 := Lib.hid hd'
      have HV2 : Hid (dv o' = r ^ (k + 1)) := Lib.hid (by rw [hv, HV.out, Nat.pow_succ])
      have HB2 := Lib.hid (ext_trans HB.out hb)
      clear hO hl hd' hv hb HO HL HD HV HB
      go_wp2_with fail
      exact ⟨⟨k + 1, m + 4, c', A', o', by omega, by go_num, rfl, by omega, HL2, HO2, HD2, HV2, HB2⟩, by simp [intOf]; omega⟩
    · obtain rfl : k = dg := by omega
      have hsz := HB.out.size
      go_wp2_with (at_make; refine wpList_makeN rfl _ _ _ rfl wr.heap.size 3 Tryd.underlying58 8 (by decide) infoI _ _ _ _ (2 * k) rfl rfl (by omega) (by omega) (by omega) (Nat.le_refl _) ?_)
      intro w2 ho2 hg2
      have hB2 := grown_none (Below.refl wr.heap.size wr) hg2 (Nat.le_refl _)
      have HO2 := Lib.hid (ho2.ext (ext_alloc w2 (.cells #[.int .i64 (n : Int)] 3)))
      have HB3 := Lib.hid (hB2.alloc hB2.size (.cells #[.int .i64 (n : Int)] 3))
      have hsz3 := HB3.out.size
      clear hB2 ho2 hg2
      go_wp2_with (at_builtin; refine wpList_appN rfl _ _ 58 rfl wr.heap.size 3 Tryd.underlying58 8 (by decide) infoI _ _ rfl HO2.out _ _ _ [n] rfl rfl (RN.lit1 .i64 w2 _ n) (by simp; omega) hsz3 ?_)
      intro v4 w4 ho4 hg4 _
      have hb4 := HO2.out.below HB3.out hg4 hsz3
      obtain ⟨A4, c4, hv4, hr4, _⟩ := ho4.form
      rw [List.length_append, List.length_replicate, List.length_singleton] at hv4
      subst hv4
      have HRA := Lib.hid (HO.out.ext hb4)
      have HRB := Lib.hid hr4
      have HB4 := Lib.hid (HB.out.trans (hb4.mono hsz))
      have hdq : Dg (List.replicate (2 * k) 0 ++ [n]) := (Dg.zeros _).append (Dg.one hn)
      have hvq : dv (List.replicate (2 * k) 0 ++ [n]) = n * 65536 ^ (2 * k) := by rw [dv_append, dv_zeros, List.length_replicate, dv, dv]; simp [Nat.mul_comm]
      have HDQ := Lib.hid hdq
      have HVQ := Lib.hid hvq
      have HLQ : Hid ((List.replicate (2 * k) 0 ++ [n]).length = 2 * k + 1) := Lib.hid (by simp)
      generalize List.replicate (2 * k) 0 ++ [n] = qq at *
      clear hb4 ho4 hg4 hr4 hdq hvq HO2 HB3 HO HB
      go_wp2_with fail
      refine (more_calls A A4 c c4 m (2 * k + 1) o qq HL.out HLQ.out w4 HRA.out HRB.out (by omega) (by omega) HD.out HDQ.out).mono ?_
      rintro e w5 ⟨rfl, rfl⟩
      rw [HVQ.out, HV.out]
      go_wp2
      go_ret
      exact ⟨rfl, HB4.out⟩
theorem pow_lt_of {a b d : Nat} (h : a ^ d < b ^ d) : a < b := Nat.lt_of_not_le fun hh => Nat.lt_irrefl _ (Nat.lt_of_lt_of_le h (Nat.pow_le_pow_left hh d))
set_option maxRecDepth 100000 in
set_option maxHeartbeats 2000000 in
theorem root_calls (n dg R : Nat) (hn : n < 65536) (hd : dg ≤ 100) (h1 : R ^ dg ≤ n * 65536 ^ (2 * dg)) (h2 : n * 65536 ^ (2 * dg) < (R + 1) ^ dg) (h3 : n * 65536 ^ (2 * dg) < 137438953472 ^ dg) (hd0 : 0 < dg) (w : World) :
    Calls Tryd.prog 27 #[.int .i64 (n : Int), .int .i64 (dg : Int)] w fun e w' => e = .returned (.int .u32 (R % 4294967296 : Nat)) ∧ Below w.heap.size w w' := by
  have HR1 := Lib.hid h1
  have HR2 := Lib.hid h2
  have HR3 := Lib.hid h3
  clear h1 h2 h3
  go_enter Tryd.func27, Tryd.ntmps27
  go_wp2_with fail
  go_loopw [5, 6] (fun vr vb W => ∃ r u : Nat, vr = .int .i64 r ∧ vb = .int .i64 (u / 2 : Nat) ∧ r + u ≤ 137438953472 ∧ 0 < u ∧ Hid (∃ e, u = 2 ^ e) ∧ Hid (r ^ dg ≤ n * 65536 ^ (2 * dg)) ∧ Hid (n * 65536 ^ (2 * dg) < (r + u) ^ dg) ∧ Hid (Below w.heap.size w W)) (fun _ vb _ => (intOf vb).toNat)
  case atStart => exact ⟨0, 137438953472, rfl, rfl, by omega, by omega, Lib.hid ⟨37, by decide⟩, Lib.hid (by rw [Nat.zero_pow hd0]; exact Nat.zero_le _), Lib.hid (by rw [Nat.zero_add]; exact HR3.out), Lib.hid (Below.refl _ _)⟩
  case round =>
    obtain ⟨r, u, rfl, rfl, hru, hu0, HE, HLO, HHI, HB⟩ := hrel
    obtain ⟨b, hb⟩ : ∃ b, u / 2 = b := ⟨_, rfl⟩
    rw [hb]
    by_cases h0 : b = 0
    · have hu1 : u = 1 := by omega
      subst hu1
      have hrR : r = R := by
        have a1 := pow_lt_of (Nat.lt_of_le_of_lt HLO.out HR2.out)
        have a2 := pow_lt_of (Nat.lt_of_le_of_lt HR1.out HHI.out)
        omega
      subst h0 hrR
      clear hb
      go_wp2
      go_ret
      exact ⟨ret_int (by omega), HB.out⟩
    · have hub : u = b + b := by
        obtain ⟨e, he⟩ := HE.out
        cases e with
        | zero => simp at he; omega
        | succ e => rw [Nat.pow_succ] at he; omega
      have HE2 : Hid (∃ e, b = 2 ^ e) := Lib.hid (by
        obtain ⟨e, he⟩ := HE.out
        cases e with
        | zero => simp at he; omega
        | succ e => exact ⟨e, by rw [Nat.pow_succ] at he; omega⟩)
      have hHI := HHI.out
      rw [hub, ← Nat.add_assoc] at hHI
      have HHI2 := Lib.hid hHI
      have hrb : r + b + b ≤ 137438953472 := by omega
      clear hub hru hb HE HHI hHI hu0
      go_wp2_with fail
      refine (above_calls (r + b) n dg (by omega) hn hd wr).mono ?_
      rintro e w2 ⟨rfl, hb2⟩
      have HB2 := Lib.hid (ext_trans HB.out hb2)
      clear hb2 HB
      by_cases hab : n * 65536 ^ (2 * dg) < (r + b) ^ dg
      · have HAB := Lib.hid hab
        rw [decide_eq_true hab]
        clear hab
        go_wp2
        exact ⟨⟨r, b, rfl, by go_num, by omega, by omega, HE2, HLO, HAB, HB2⟩, by simp [intOf]; omega⟩
      · have HAB : Hid ((r + b) ^ dg ≤ n * 65536 ^ (2 * dg)) := Lib.hid (Nat.le_of_not_lt hab)
        rw [decide_eq_false hab]
        clear hab
        go_wp2
        exact ⟨⟨r + b, b, by go_num, by go_num, by omega, by omega, HE2, HAB, HHI2, HB2⟩, by simp [intOf]; omega⟩
end Go.Proofs.YtchbnablefoemaaDoor
namespace Go.Proofs.YtchbnablefoemaaDoor
open Go.RowKit
set_option linter.unusedVariables false

/-! ### plain -/
def allTo (l : List Nat) (n : Nat) : Nat → Bool
  | 0 => true
  | k + 1 => allTo l n k && decide (n % gw l k ≠ 0)
def pstep (l : List Nat) (n : Nat) : List Nat := if allTo l n l.length = true then l ++ [n] else l
def PL : Nat → List Nat
  | 0 => []
  | j + 1 => pstep (PL j) (2 + j)
theorem PL_pos (j i : Nat) (h : i < (PL j).length) : 2 ≤ gw (PL j) i ∧ gw (PL j) i < 2 + j := by
  induction j with
  | zero => simp [PL] at h
  | succ j ih =>
    rw [PL, pstep] at h ⊢
    split at h
    · rename_i hc
      rw [if_pos hc]
      rw [List.length_append, List.length_singleton] at h
      by_cases hi : i < (PL j).length
      · have := ih hi
        have e : gw (PL j ++ [2 + j]) i = gw (PL j) i := by unfold gw; rw [List.getD_eq_getElem?_getD, List.getElem?_append_left hi, ← List.getD_eq_getElem?_getD]
        rw [e]
        omega
      · have e : gw (PL j ++ [2 + j]) i = 2 + j := by
          obtain rfl : i = (PL j).length := by omega
          unfold gw; rw [List.getD_eq_getElem?_getD, List.getElem?_append_right (Nat.le_refl _), Nat.sub_self]; rfl
        rw [e]
        omega
    · rename_i hc
      rw [if_neg hc]
      have := ih h
      omega
def primes8 : List Nat := [2, 3, 5, 7, 11, 13, 17, 19]
def primes64 : List Nat := [2, 3, 5, 7, 11, 13, 17, 19, 23, 29, 31, 37, 41, 43, 47, 53, 59, 61, 67, 71, 73, 79, 83, 89, 97, 101, 103, 107, 109, 113, 127, 131, 137, 139, 149, 151, 157, 163, 167, 173, 179, 181, 191, 193, 197, 199, 211, 223, 227, 229, 233, 239, 241, 251, 257, 263, 269, 271, 277, 281, 283, 293, 307, 311]
theorem pl8 : PL 18 = primes8 := by decide +kernel
theorem pl64 : PL 310 = primes64 := by decide +kernel
theorem few8 : ∀ j, j < 18 → (PL j).length < 8 := by decide +kernel
theorem few64 : ∀ j, j < 310 → (PL j).length < 64 := by decide +kernel

set_option maxRecDepth 100000 in
set_option maxHeartbeats 2000000 in
theorem primes_calls (many J : Nat) (P : List Nat) (hP : PL J = P) (hm : P.length = many) (hf : ∀ j, j < J → (PL j).length < many) (hJ : J ≤ 1000) (hmany : many ≤ 1000) (w : World) :
    Calls Tryd.prog 26 #[.int .i64 (many : Int)] w fun e w' => ∃ A c, e = .returned (.slice A many c) ∧ RN .i64 w' A P ∧ Below w.heap.size w w' := by
  have HP := Lib.hid hP
  have HM := Lib.hid hm
  have HF := Lib.hid hf
  clear hP hm hf
  go_enter Tryd.func26, Tryd.ntmps26
  go_wp2_with fail
  go_loopw [3, 4] (fun v i W => ∃ (j m c : Nat) (A : Option Addr), j ≤ J ∧ i = .int .i64 (2 + (j : Int)) ∧ v = .slice A m c ∧ m ≤ many ∧ Hid ((PL j).length = m) ∧ Hid (OwnN .i64 w.heap.size 3 W (.slice A m c) (PL j)) ∧ Hid (Below w.heap.size w W)) (fun _ i _ => J + 2 - (intOf i).toNat)
  case atStart => exact ⟨0, 0, 0, none, Nat.zero_le _, rfl, rfl, Nat.zero_le _, Lib.hid rfl, Lib.hid (OwnN.nil _ _ _ _), Lib.hid (Below.refl _ _)⟩
  case round =>
    obtain ⟨j, m, c, A, hj, rfl, rfl, hm, HL, HO, HB⟩ := hrel
    by_cases hjJ : j < J
    · have hlt := HF.out j hjJ
      rw [HL.out] at hlt
      have HPOS : Hid (∀ i, i < m → 2 ≤ gw (PL j) i ∧ gw (PL j) i < 2 + j) := Lib.hid fun i hi => PL_pos j i (by rw [HL.out]; exact hi)
      have HS : Hid (PL (j + 1) = if allTo (PL j) (2 + j) m = true then PL j ++ [2 + j] else PL j) := Lib.hid (by rw [PL, pstep, HL.out])
      have HLE : Hid ((PL (j + 1)).length ≤ many) := Lib.hid (by
        by_cases h : j + 1 < J
        · exact Nat.le_of_lt (HF.out _ h)
        · rw [show j + 1 = J by omega, HP.out, HM.out]; exact Nat.le_refl _)
      obtain ⟨n, hn⟩ : ∃ n, 2 + j = n := ⟨_, rfl⟩
      have hni : (2 : Int) + (j : Int) = (n : Int) := by omega
      have hn1 : n ≤ 1002 := by omega
      have hn2 : 2 ≤ n := by omega
      rw [hn] at HPOS HS
      have HNN := Lib.hid hn
      rw [hni]
      clear hn hni
      obtain ⟨q2, hq2⟩ : ∃ x, PL (j + 1) = x := ⟨_, rfl⟩
      rw [hq2] at HS HLE
      have HQ2 := Lib.hid hq2
      clear hq2
      generalize PL j = q at *
      have HR : Hid (RN .i64 wr A q) := Lib.hid (by
        obtain ⟨A', c', hv, hr, _⟩ := HO.out.form
        injection hv with ea
        subst ea
        exact hr)
      go_wp2_with fail
      go_loop [5, 16] (fun vo vi => ∃ k : Nat, k ≤ m ∧ vi = .int .i64 k ∧ vo = .bool (allTo q n k)) (fun _ vi => m - (intOf vi).toNat)
      case atStart => exact ⟨0, Nat.zero_le _, rfl, rfl⟩
      case round =>
        obtain ⟨k, hk, rfl, rfl⟩ := hrel
        by_cases hkm : k < m
        · obtain ⟨b, o, rfl, hc⟩ := HR.out k (by rw [HL.out]; exact hkm)
          have hp := HPOS.out k hkm
          have HST : Hid (allTo q n (k + 1) = (allTo q n k && decide (n % gw q k ≠ 0))) := Lib.hid rfl
          obtain ⟨p, hpp⟩ : ∃ p, gw q k = p := ⟨_, rfl⟩
          rw [hpp] at hc hp HST
          obtain ⟨hp2, hpn⟩ := hp
          obtain ⟨s, hs⟩ : ∃ s, n % p = s := ⟨_, rfl⟩
          have e1 : (n : Int).tmod (p : Int) = (s : Int) := by rw [← hs]; exact tmod_nat n p
          rw [hs] at HST
          obtain ⟨q3, hq3⟩ : ∃ x, allTo q n (k + 1) = x := ⟨_, rfl⟩
          have HQ3 := Lib.hid hq3
          rw [hq3] at HST
          obtain ⟨q4, hq4⟩ : ∃ x, allTo q n k = x := ⟨_, rfl⟩
          rw [hq4] at HST ⊢
          have d0 : ((p : Int) == 0) = false := beq_eq_false_iff_ne.2 (by omega)
          clear hpp hs hq3 hq4
          cases q4 with
          | false =>
            go_wp2
            exact ⟨⟨k + 1, by omega, by go_num, by rw [HQ3.out, HST.out]; simp⟩, by simp [intOf]; omega⟩
          | true =>
            by_cases hs0 : s = 0
            · subst hs0
              go_wp2
              exact ⟨⟨k + 1, by omega, by go_num, by rw [HQ3.out, HST.out]; simp⟩, by simp [intOf]; omega⟩
            · have d1 : ((s : Int) == 0) = false := beq_eq_false_iff_ne.2 (by omega)
              go_wp2
              exact ⟨⟨k + 1, by omega, by go_num, by rw [HQ3.out, HST.out]; simp [hs0]⟩, by simp [intOf]; omega⟩
        · obtain rfl : k = m := by omega
          obtain ⟨ok, hok⟩ : ∃ x, allTo q n k = x := ⟨_, rfl⟩
          rw [hok] at HS ⊢
          clear hok HPOS HR
          cases ok with
          | false =>
            have HE : Hid (q2 = q) := Lib.hid (by rw [HS.out]; simp)
            go_wp2
            exact ⟨⟨j + 1, k, c, A, by omega, by have := HNN.out; go_num, rfl, by omega, Lib.hid (by rw [HQ2.out, HE.out]; exact HL.out), Lib.hid (by rw [HQ2.out, HE.out]; exact HO.out), HB⟩, by have := HNN.out; simp [intOf]; omega⟩
          | true =>
            have HE : Hid (q2 = q ++ [n]) := Lib.hid (by rw [HS.out]; simp)
            have hsz := HB.out.size
            have HO1 := Lib.hid (HO.out.ext (ext_alloc wr (.cells #[.int .i64 (n : Int)] 3)))
            have HB1 := Lib.hid (HB.out.alloc hsz (.cells #[.int .i64 (n : Int)] 3))
            have hsz1 := HB1.out.size
            clear HO HB
            go_wp2_with (at_builtin; refine wpList_appN rfl _ _ 58 rfl w.heap.size 3 Tryd.underlying58 8 (by decide) infoI _ q rfl HO1.out _ _ _ [n] rfl rfl (RN.lit1 .i64 wr _ n) (by rw [HL.out]; simp; omega) hsz1 ?_)
            intro v4 w4 ho4 hg4 _
            have hb4 := HO1.out.below HB1.out hg4 hsz1
            rw [← HE.out] at ho4
            have hl4 : q2.length = k + 1 := by rw [HE.out, List.length_append, HL.out]; rfl
            obtain ⟨A4, c4, hv4, _⟩ := ho4.form
            rw [hl4] at hv4
            subst hv4
            have HO4 := Lib.hid ho4
            have HB4 := Lib.hid hb4
            have HL4 := Lib.hid hl4
            have hle := HLE.out
            rw [hl4] at hle
            clear ho4 hb4 hl4 hg4 HO1 HB1
            go_wp2
            exact ⟨⟨j + 1, k + 1, c4, A4, by omega, by have := HNN.out; go_num, rfl, hle, Lib.hid (by rw [HQ2.out]; exact HL4.out), Lib.hid (by rw [HQ2.out]; exact HO4.out), HB4⟩, by have := HNN.out; simp [intOf]; omega⟩
    · obtain rfl : j = J := by omega
      have hmm : m = many := by rw [← HL.out, HP.out, HM.out]
      subst hmm
      have HRF : Hid (RN .i64 wr A P) := Lib.hid (by
        obtain ⟨A', c', hv, hr, _⟩ := HO.out.form
        injection hv with ea
        subst ea
        rw [← HP.out]
        exact hr)
      clear HO
      go_wp2
      go_ret
      exact ⟨A, c, rfl, HRF.out, HB.out⟩
def roots8 : List Nat := [6074000999, 7439101573, 9603838834, 11363415354, 14244795007, 15485724812, 17708603819, 18721328409]
def roots64 : List Nat := [5411319704, 6194414737, 7344290767, 8215976869, 9551921755, 10098905585, 11043570340, 11460697813, 12214315672, 13195500289, 13492127166, 14311783875, 14809980276, 15046980094, 15499789991, 16133124468, 16720292289, 16907126662, 17444216262, 17784676812, 17950125167, 18429019306, 18734950876, 19175934170, 19734090066, 20001703533, 20132865992, 20390182855, 20516441075, 20764397895, 21588763473, 21813078375, 22141143685, 22248366392, 22769593852, 22871018771, 23170020180, 23461497531, 23651862830, 23931792517, 24205322401, 24295138891, 24734567280, 24820601251, 24990902297, 25075189284, 25569408389, 26045227120, 26200031510, 26276752392, 26428864332, 26653801653, 26727943347, 27092625994, 27306805839, 27517677555, 27725365998, 27793908591, 27997534228, 28131656200, 28198240250, 28526537963, 28973835255, 29099129074]
/-- The roots of the numbers of P, and their last 32 bits. -/
def RootsOk (dg : Nat) (P Rs ks : List Nat) : Prop := ∀ i, i < P.length → gw P i < 65536 ∧ (gw Rs i) ^ dg ≤ gw P i * 65536 ^ (2 * dg) ∧ gw P i * 65536 ^ (2 * dg) < (gw Rs i + 1) ^ dg ∧ gw P i * 65536 ^ (2 * dg) < 137438953472 ^ dg ∧ gw Rs i % 4294967296 = gw ks i
instance (dg : Nat) (P Rs ks : List Nat) : Decidable (RootsOk dg P Rs ks) := by unfold RootsOk; infer_instance
theorem ok8 : RootsOk 2 primes8 roots8 firstL := by decide +kernel
theorem ok64 : RootsOk 3 primes64 roots64 roundsL := by decide +kernel
theorem infoW : (Tryd.prog.info? 25).map (fun i => (i.zero, i.size, i.bytes)) = some (some (.int .u32 0), 1, 4) := by kernel_rfl
theorem gw_take_succ (l : List Nat) (k : Nat) (h : k < l.length) : l.take (k + 1) = l.take k ++ [gw l k] := by
  rw [List.take_add_one, List.getElem?_eq_getElem h]
  unfold gw
  rw [List.getD_eq_getElem?_getD, List.getElem?_eq_getElem h]; rfl
set_option maxRecDepth 100000 in
set_option maxHeartbeats 2000000 in
theorem consts_calls (many dg J : Nat) (P Rs ks : List Nat) (hP : PL J = P) (hm : P.length = many) (hk : ks.length = many) (hf : ∀ j, j < J → (PL j).length < many) (hJ : J ≤ 1000) (hmany : many ≤ 1000) (hR : RootsOk dg P Rs ks) (hd : dg ≤ 100) (hd0 : 0 < dg) (w : World) :
    Calls Tryd.prog 21 #[.int .i64 (many : Int), .int .i64 (dg : Int)] w fun e w' => ∃ A c, e = .returned (.slice A many c) ∧ many ≤ c ∧ RN .u32 w' A ks ∧ Below w.heap.size w w' := by
  have HP := Lib.hid hP
  have HM := Lib.hid hm
  have HK := Lib.hid hk
  have HF := Lib.hid hf
  have HR := Lib.hid hR
  clear hP hm hf hR hk
  go_enter Tryd.func21, Tryd.ntmps21
  go_wp2_with fail
  refine (primes_calls many J P HP.out HM.out HF.out hJ hmany w).mono ?_
  rintro e w1 ⟨A1, c1, rfl, hr1, hb1⟩
  have HR1 := Lib.hid hr1
  have HB1 := Lib.hid hb1
  clear hr1 hb1
  go_wp2_with fail
  go_loopw [5, 11] (fun v i W => ∃ (k c : Nat) (A : Option Addr), k ≤ many ∧ i = .int .i64 k ∧ v = .slice A k c ∧ Hid (OwnN .u32 w1.heap.size 25 W (.slice A k c) (ks.take k)) ∧ Hid (Below w1.heap.size w1 W)) (fun _ i _ => many - (intOf i).toNat)
  case atStart => exact ⟨0, 0, none, Nat.zero_le _, rfl, rfl, Lib.hid (OwnN.nil _ _ _ _), Lib.hid (Below.refl _ _)⟩
  case round =>
    obtain ⟨k, c, A, hk, rfl, rfl, HO, HX⟩ := hrel
    by_cases hkm : k < many
    · obtain ⟨b, o, rfl, hc⟩ := (HR1.out.ext HX.out) k (by rw [HM.out]; exact hkm)
      obtain ⟨q1, q2, q3, q4, q5⟩ := HR.out k (by rw [HM.out]; exact hkm)
      have htk := gw_take_succ ks k (by rw [HK.out]; exact hkm)
      obtain ⟨p, hp⟩ : ∃ p, gw P k = p := ⟨_, rfl⟩
      rw [hp] at hc q1 q2 q3 q4
      obtain ⟨x, hx⟩ : ∃ p, gw ks k = p := ⟨_, rfl⟩
      rw [hx] at q5 htk
      have HTK := Lib.hid htk
      have Q2 := Lib.hid q2
      have Q3 := Lib.hid q3
      have Q4 := Lib.hid q4
      have Q5 := Lib.hid q5
      clear hp hx q2 q3 q4 q5 htk
      have HLK : Hid ((ks.take k).length = k) := Lib.hid (by rw [List.length_take, HK.out]; omega)
      go_wp2_with fail
      refine (root_calls p dg (gw Rs k) q1 hd Q2.out Q3.out Q4.out hd0 wr).mono ?_
      rintro e w2 ⟨rfl, hb2⟩
      rw [Q5.out]
      have hsz := HX.out.size
      have HX2 := Lib.hid ((ext_trans HX.out hb2).alloc (by have := hb2.size; omega) (.cells #[.int .u32 (x : Int)] 25))
      have HO2 := Lib.hid ((HO.out.ext hb2).ext (ext_alloc w2 (.cells #[.int .u32 (x : Int)] 25)))
      have hsz2 := HX2.out.size
      clear hb2 HX HO
      go_wp2_with (at_builtin; refine wpList_appN rfl _ _ 50 rfl w1.heap.size 25 Tryd.underlying50 4 (by decide) infoW _ (ks.take k) rfl HO2.out _ _ _ [x] rfl rfl (RN.lit1 .u32 w2 _ x) (by rw [HLK.out]; simp; omega) hsz2 ?_)
      intro v4 w4 ho4 hg4 _
      have hb4 := HO2.out.below HX2.out hg4 hsz2
      rw [← HTK.out] at ho4
      have hl4 : (ks.take (k + 1)).length = k + 1 := by rw [List.length_take, HK.out]; omega
      obtain ⟨A4, c4, hv4, _⟩ := ho4.form
      rw [hl4] at hv4
      subst hv4
      have HO4 := Lib.hid ho4
      have HX4 := Lib.hid hb4
      clear ho4 hb4 hg4 hl4 HX2 HO2
      go_wp2
      exact ⟨⟨k + 1, c4, A4, by omega, by go_num, rfl, HO4, HX4⟩, by simp [intOf]; omega⟩
    · obtain rfl : k = many := by omega
      rw [← HK.out, List.take_length, HK.out] at HO
      obtain ⟨A', c', hv, hr, hcc, _⟩ := HO.out.form
      rw [HK.out] at hv hcc
      injection hv with ea eb ec
      subst ea ec
      have HRR := Lib.hid hr
      clear hr eb
      go_wp2
      go_ret
      exact ⟨A, c, rfl, hcc, HRR.out, HB1.out.trans (HX.out.mono HB1.out.size)⟩
end Go.Proofs.YtchbnablefoemaaDoor
