/- A region whose order is open, by one relation over what has been carried out so far: each operation is shown once. No program. -/
import Derived.Test.YtjhnnnklfhbebaaBase
import Derived.Orders
namespace Go.Proofs.Ytjhnnnklfhbebaa
open Go.RowKit

/-- Number i is carried out too. -/
def upd (b : Nat → Bool) (i : Nat) : Nat → Bool := fun j => if j = i then true else b j
theorem upd_self (b : Nat → Bool) (i : Nat) : upd b i i = true := by simp [upd]
theorem upd_ne {b : Nat → Bool} {i j : Nat} (h : j ≠ i) : upd b i j = b j := by simp [upd, h]

/-- Each edge leads back. -/
def backB (ops : Array Oper) : Bool := (List.range ops.size).all fun i => match ops[i]? with
  | some o => o.after.toList.all fun e => !Region.binds .any e || decide (e.on < i)
  | none => true
/-- B tells of each operation some that are surely ahead of it. -/
def aheadB (ops : Array Oper) (B : List (List Nat)) : Bool := (List.range ops.size).all fun i => match ops[i]? with
  | some o => (B.getD i []).all fun j => o.after.toList.any fun e => Region.binds .any e && (e.on == j || (B.getD e.on []).contains j)
  | none => true

section
variable {P : Program} {ops : Array Oper} {Q : Exit → Act → World → Prop}
theorem backB_at (h : backB ops = true) {i : Nat} {o : Oper} (ho : ops[i]? = some o) : ∀ e ∈ o.after, Region.binds .any e = true → e.on < i := by
  intro e he hb
  have h1 := List.all_eq_true.1 h i (List.mem_range.2 (Array.getElem?_eq_some_iff.1 ho).1)
  simp only [ho, List.all_eq_true] at h1
  have h2 := h1 e (Array.mem_toList_iff.2 he)
  rw [hb] at h2
  simpa using h2
theorem aheadB_at {B : List (List Nat)} (h : aheadB ops B = true) {i : Nat} {o : Oper} (ho : ops[i]? = some o) : ∀ j ∈ B.getD i [], ∃ e ∈ o.after, Region.binds .any e = true ∧ (e.on = j ∨ j ∈ B.getD e.on []) := by
  intro j hj
  have h1 := List.all_eq_true.1 h i (List.mem_range.2 (Array.getElem?_eq_some_iff.1 ho).1)
  simp only [ho] at h1
  have h2 := List.all_eq_true.1 h1 j hj
  obtain ⟨e, he, h3⟩ := List.any_eq_true.1 h2
  rw [Bool.and_eq_true, Bool.or_eq_true] at h3
  exact ⟨e, Array.mem_toList_iff.1 he, h3.1, h3.2.imp (fun h => by simpa using h) (fun h => by simpa using h)⟩

/-- What has been carried out is closed under what stands ahead. -/
def ClosedBy (ops : Array Oper) (b : Nat → Bool) : Prop := ∀ i o, ops[i]? = some o → b i = true → ∀ e ∈ o.after, Region.binds .any e = true → b e.on = true
theorem ahead_all {B : List (List Nat)} (hk : backB ops = true) (hB : aheadB ops B = true) {b : Nat → Bool} (hc : ClosedBy ops b) :
    ∀ (n i : Nat) (o : Oper), i ≤ n → ops[i]? = some o → b i = true → ∀ j ∈ B.getD i [], b j = true := by
  intro n
  induction n with
  | zero =>
    intro i o hi ho _ j hj
    obtain ⟨e, he, h1, _⟩ := aheadB_at hB ho j hj
    have := backB_at hk ho e he h1
    omega
  | succ n ih =>
    intro i o hi ho hb j hj
    obtain ⟨e, he, h1, h2⟩ := aheadB_at hB ho j hj
    have hlt := backB_at hk ho e he h1
    have hbe := hc i o ho hb e he h1
    rcases h2 with rfl | h2
    · exact hbe
    · have hsz : e.on < ops.size := by have := (Array.getElem?_eq_some_iff.1 ho).1; omega
      exact ih e.on ops[e.on] (by omega) (Array.getElem?_eq_getElem hsz) hbe j h2
theorem ahead_ready {B : List (List Nat)} (hk : backB ops = true) (hB : aheadB ops B = true) {b : Nat → Bool} (hc : ClosedBy ops b) {i : Nat} {o : Oper} (ho : ops[i]? = some o)
    (hr : ∀ e ∈ o.after, Region.binds .any e = true → b e.on = true) : ∀ j ∈ B.getD i [], b j = true := by
  intro j hj
  obtain ⟨e, he, h1, h2⟩ := aheadB_at hB ho j hj
  have hlt := backB_at hk ho e he h1
  rcases h2 with rfl | h2
  · exact hr e he h1
  · have hsz : e.on < ops.size := by have := (Array.getElem?_eq_some_iff.1 ho).1; omega
    exact ahead_all hk hB hc e.on e.on ops[e.on] (Nat.le_refl _) (Array.getElem?_eq_getElem hsz) (hr e he h1) j h2

/-- The relation behind operation i: a name at which the walk stops. -/
def Stop (J : (Nat → Bool) → Act → World → Prop) (b : Nat → Bool) (i : Nat) (a : Act) (w : World) : Prop := J (upd b i) a w
/-- One operation's step: out of the relation to the relation with it. -/
def StepOf (P : Program) (ops : Array Oper) (Q : Exit → Act → World → Prop) (B : List (List Nat)) (I : (Nat → Bool) → Act → World → Prop) (i : Nat) (o : Oper) : Prop :=
  ∀ b a w, I b a w → b i = false → (∀ j ∈ B.getD i [], b j = true) → ∀ (J : (Nat → Bool) → Act → World → Prop) (K : Act → World → Prop), (∀ b a w, I b a w → J b a w) → (∀ a' w', Stop J b i a' w' → K a' w') → wpList P ops (Exit.then K Q) [o] a w
def StepsOf (P : Program) (ops : Array Oper) (Q : Exit → Act → World → Prop) (B : List (List Nat)) (I : (Nat → Bool) → Act → World → Prop) : List Oper → Nat → Prop
  | [], _ => True
  | o :: r, i => StepOf P ops Q B I i o ∧ StepsOf P ops Q B I r (i + 1)
theorem StepsOf.at {B : List (List Nat)} {I : (Nat → Bool) → Act → World → Prop} : ∀ {l : List Oper} {k : Nat}, StepsOf P ops Q B I l k → ∀ (i : Nat) (o : Oper), l[i]? = some o → StepOf P ops Q B I (k + i) o
  | [], _, _, i, o, h => by simp at h
  | o' :: r, k, hs, 0, o, h => by
    simp at h
    subst h
    exact hs.1
  | o' :: r, k, hs, i + 1, o, h => by
    have := StepsOf.at hs.2 i o (by simpa using h)
    rwa [show k + 1 + i = k + (i + 1) by omega] at this
theorem wpOp_of_list {i : Nat} {o : Oper} (ho : ops[i]? = some o) {K : Act → World → Prop} {a : Act} {w : World} (h : wpList P ops (Exit.then K Q) [o] a w) : wpOp P ops Q i K a w := by
  unfold wpOp
  simp only [ho]
  unfold wpList at h
  have hn : (fun a w => wpList P ops (Exit.then K Q) [] a w) = K := by funext a w; simp [wpList, Exit.then]
  have e : o.wp P a w (wpList P ops (Exit.then K Q) []) (Exit.then K Q) → o.wp P a w K Q := by
    intro hh
    rw [show wpList P ops (Exit.then K Q) [] = K from hn] at hh
    unfold Oper.wp at hh ⊢
    generalize (execOp a.eval o).run P w = r at hh ⊢
    cases r with
    | ok n w' =>
      cases n <;> simp only [Oper.upon] at hh ⊢ <;>
        first
          | exact hh
          | exact Calls.mono hh (fun e w'' he => by cases e <;> exact he)
    | halt x w' => cases x <;> simp only [Oper.upon] at hh ⊢ <;> exact hh
  split
  · rename_i hw
    rw [if_pos hw] at h
    exact h.imp e id
  · rename_i hw
    rw [if_neg hw, show wpList P ops (Exit.then K Q) [] = K from hn] at h
    exact h

/-- How many are not carried out. -/
theorem count_upd {b : Nat → Bool} {i n : Nat} (hi : i < n) (hb : b i = false) : ((List.range n).filter fun j => !upd b i j).length + 1 = ((List.range n).filter fun j => !b j).length := by
  have key : ∀ l : List Nat, l.Nodup → i ∈ l → (l.filter fun j => !upd b i j).length + 1 = (l.filter fun j => !b j).length := by
    intro l
    induction l with
    | nil => intro _ h; cases h
    | cons x r ih =>
      intro hn hm
      rw [List.nodup_cons] at hn
      rcases List.mem_cons.1 hm with rfl | hm
      · have : (r.filter fun j => !upd b i j) = r.filter fun j => !b j := List.filter_congr fun j hj => by rw [upd_ne (fun e => hn.1 (by rw [← e]; exact hj))]
        simp [upd_self, hb, this]
      · have hx : x ≠ i := fun e => hn.1 (e ▸ hm)
        have := ih hn.2 hm
        simp only [List.filter_cons, upd_ne hx]
        split
        · simp only [List.length_cons]; omega
        · exact this
  exact key _ List.nodup_range (List.mem_range.2 hi)

theorem wpAny_inv {B : List (List Nat)} (hk : backB ops = true) (hB : aheadB ops B = true) (I : (Nat → Bool) → Act → World → Prop) (hs : StepsOf P ops Q B I ops.toList 0)
    (hend : ∀ b a w, (∀ i, i < ops.size → b i = true) → I b a w → Q .normal a w) :
    ∀ (m : Nat) (b : Nat → Bool) (listed : Array Bool) (a : Act) (w : World), ((List.range ops.size).filter fun j => !b j).length = m → listed.size = ops.size → (∀ j, j < ops.size → ∀ d, listed.getD j d = b j) → ClosedBy ops b → I b a w → wpAny P .any ops Q m listed a w := by
  have low : ∀ (b : Nat → Bool) (listed : Array Bool), listed.size = ops.size → (∀ j, j < ops.size → ∀ d, listed.getD j d = b j) → Region.ready .any ops listed = [] → ∀ n i, i ≤ n → i < ops.size → b i = true := by
    intro b listed hsz hl hr n
    induction n with
    | zero =>
      intro i hi hlt
      obtain rfl : i = 0 := by omega
      cases hb : b 0 with
      | true => rfl
      | false =>
        have : 0 ∈ Region.ready .any ops listed := mem_ready.2 ⟨by rw [hl 0 hlt]; exact hb, ops[0], Array.getElem?_eq_getElem hlt, fun e he hbd => by have := backB_at hk (Array.getElem?_eq_getElem hlt) e he hbd; omega⟩
        rw [hr] at this
        cases this
    | succ n ih =>
      intro i hi hlt
      cases hb : b i with
      | true => rfl
      | false =>
        have : i ∈ Region.ready .any ops listed := mem_ready.2 ⟨by rw [hl i hlt]; exact hb, ops[i], Array.getElem?_eq_getElem hlt, fun e he hbd => by
          have h1 := backB_at hk (Array.getElem?_eq_getElem hlt) e he hbd
          rw [hl e.on (by omega)]
          exact ih e.on (by omega) (by omega)⟩
        rw [hr] at this
        cases this
  intro m
  induction m with
  | zero =>
    intro b listed a w hm hsz hl hc hI
    have hall : ∀ i, i < ops.size → b i = true := by
      intro i hi
      cases hb : b i with
      | true => rfl
      | false =>
        have : i ∈ (List.range ops.size).filter fun j => !b j := List.mem_filter.2 ⟨List.mem_range.2 hi, by simp [hb]⟩
        rw [List.eq_nil_of_length_eq_zero hm] at this
        cases this
    refine ⟨?_, hend b a w hall hI⟩
    refine List.eq_nil_iff_forall_not_mem.2 fun i hi => ?_
    obtain ⟨h0, o, ho, _⟩ := mem_ready.1 hi
    have hlt := (Array.getElem?_eq_some_iff.1 ho).1
    rw [hl i hlt, hall i hlt] at h0
    cases h0
  | succ m ih =>
    intro b listed a w hm hsz hl hc hI
    refine ⟨fun hr => hend b a w (fun i hi => low b listed hsz hl hr i i (Nat.le_refl _) hi) hI, fun i hi => ?_⟩
    obtain ⟨h0, o, ho, hall⟩ := mem_ready.1 hi
    have hlt := (Array.getElem?_eq_some_iff.1 ho).1
    have hbi : b i = false := by rw [hl i hlt] at h0; exact h0
    have hr : ∀ e ∈ o.after, Region.binds .any e = true → b e.on = true := by
      intro e he h1
      have h2 := hall e he h1
      have h3 := backB_at hk ho e he h1
      rwa [hl e.on (by omega)] at h2
    have hst := StepsOf.at hs i o (by rw [Array.getElem?_toList]; exact ho)
    rw [Nat.zero_add] at hst
    refine wpOp_of_list ho (hst b a w hI hbi (ahead_ready hk hB hc ho hr) I _ (fun _ _ _ h => h) fun a' w' hI' => ?_)
    refine ih (upd b i) (listed.setIfInBounds i true) a' w' ?_ (by simpa using hsz) ?_ ?_ hI'
    · have := count_upd hlt hbi
      omega
    · intro j hj d
      by_cases hij : i = j
      · subst hij
        rw [upd_self]
        simp [hsz, hlt]
      · rw [getD_set_ne d hij, upd_ne (Ne.symm hij), hl j hj d]
    · intro j o' ho' hbj e he h1
      by_cases hje : e.on = i
      · rw [hje, upd_self]
      · rw [upd_ne hje]
        by_cases hji : j = i
        · subst hji
          obtain rfl : o = o' := Option.some.inj (ho.symm.trans ho')
          exact hr e he h1
        · rw [upd_ne hji] at hbj
          exact hc j o' ho' hbj e he h1

/-- THE RULE. B: what is surely ahead of each; I: the relation. -/
theorem wp_region_rel {id : Nat} {l : List Oper} {a : Act} {w : World} (B : List (List Nat)) (I : (Nat → Bool) → Act → World → Prop) (hm : P.follows .mixedOrders = true)
    (hk : backB l.toArray = true) (hB : aheadB l.toArray B = true) (h0 : I (fun _ => false) a w.drew)
    (hs : StepsOf P l.toArray Q B I l 0) (hend : ∀ b a w, (∀ i, i < l.length → b i = true) → I b a w → Q .normal a w) : (Code.region id l.toArray true).wp P Q a w := by
  refine wp_region_any hm ?_
  have := wpAny_inv (P := P) (Q := Q) hk hB I (by simpa using hs) (fun b a w h => hend b a w (by simpa using h)) l.length (fun _ => false) (Array.replicate l.toArray.size false) a w.drew (by rw [List.filter_eq_self.2 (by simp)]; simp) (by simp) (by intro j hj d; simp at hj ⊢; simp [hj]) (fun _ _ _ h => by cases h) h0
  simpa using this

/-! ### The same rule by facts: what each operation's slot holds, once it has been carried out. -/
/-- A fact that stays where the memory below stays. -/
def Mono (f : Value → World → Prop) : Prop := ∀ v w1 w2, Below w1.heap.size w1 w2 → f v w1 → f v w2
def MonoAll : List (Value → World → Prop) → Prop
  | [] => True
  | f :: r => Mono f ∧ MonoAll r
theorem Mono.eq (x : Value) : Mono (fun u _ => u = x) := fun _ _ _ _ h => h
theorem Mono.pure (p : Value → Prop) : Mono (fun u _ => p u) := fun _ _ _ _ h => h
def factAt (F : List (Value → World → Prop)) (i : Nat) : Value → World → Prop := F.getD i fun _ _ => True
theorem MonoAll.at : ∀ {F : List (Value → World → Prop)}, MonoAll F → ∀ i, Mono (factAt F i)
  | [], _, _ => fun _ _ _ _ _ => trivial
  | _ :: _, h, 0 => h.1
  | _ :: _, h, i + 1 => MonoAll.at h.2 i
def setU (u : Nat → Value) (i : Nat) (v : Value) : Nat → Value := fun j => if j = i then v else u j
theorem setU_self (u : Nat → Value) (i : Nat) (v : Value) : setU u i v i = v := by simp [setU]
theorem setU_ne {u : Nat → Value} {i j : Nat} {v : Value} (h : j ≠ i) : setU u i v j = u j := by simp [setU, h]
/-- Where the walk of one operation stops. -/
def StopF (J : Act → World → Prop) (a : Act) (w : World) : Prop := J a w
def StepF (P : Program) (ops : Array Oper) (Q : Exit → Act → World → Prop) (B : List (List Nat)) (F : List (Value → World → Prop)) (st : (Nat → Value) → Act) (w : World) (i : Nat) (o : Oper) : Prop :=
  ∀ (u : Nat → Value) (w2 : World), Below w.heap.size w w2 → (∀ j ∈ B.getD i [], factAt F j (u j) w2) → ∀ (J K : Act → World → Prop),
    (∀ v w3 a', Below w2.heap.size w2 w3 → factAt F i v w3 → a' = st (setU u i v) → J a' w3) → (∀ a' w', StopF J a' w' → K a' w') → wpList P ops (Exit.then K Q) [o] (st u) w2
def StepsF (P : Program) (ops : Array Oper) (Q : Exit → Act → World → Prop) (B : List (List Nat)) (F : List (Value → World → Prop)) (st : (Nat → Value) → Act) (w : World) : List Oper → Nat → Prop
  | [], _ => True
  | o :: r, i => StepF P ops Q B F st w i o ∧ StepsF P ops Q B F st w r (i + 1)
theorem steps_of_F {B : List (List Nat)} {F : List (Value → World → Prop)} {st : (Nat → Value) → Act} {w : World} (hF : MonoAll F) : ∀ {l : List Oper} {k : Nat}, StepsF P ops Q B F st w l k →
    StepsOf P ops Q B (fun b a w' => ∃ u : Nat → Value, a = st u ∧ (∀ i, b i = true → factAt F i (u i) w') ∧ Below w.heap.size w w') l k
  | [], _, _ => trivial
  | _ :: _, i, hs => ⟨fun b a w2 hI _ hB J K hJ hK => by
      obtain ⟨u, rfl, hf, hb⟩ := hI
      refine hs.1 u w2 hb (fun j hj => hf j (hB j hj)) (fun a' w' => Stop J b i a' w') K ?_ hK
      rintro v w3 _ hb3 hv rfl
      refine hJ _ _ _ ⟨setU u i v, rfl, ?_, hb.trans (hb3.mono hb.size)⟩
      intro j hj
      by_cases h : j = i
      · rw [h, setU_self]
        exact hv
      · rw [upd_ne h] at hj
        rw [setU_ne h]
        exact MonoAll.at hF j _ _ _ hb3 (hf j hj), steps_of_F hF hs.2⟩
/-- THE RULE BY FACTS. st: the state out of the operations' values. -/
theorem wp_region_facts {id : Nat} {l : List Oper} {a : Act} {w : World} (B : List (List Nat)) (F : List (Value → World → Prop)) (st : (Nat → Value) → Act) (u0 : Nat → Value) (hm : P.follows .mixedOrders = true)
    (hk : backB l.toArray = true) (hB : aheadB l.toArray B = true) (ha : a = st u0) (hF : MonoAll F)
    (hs : StepsF P l.toArray Q B F st w l 0) (hend : ∀ u w2, Below w.heap.size w w2 → (∀ i, i < l.length → factAt F i (u i) w2) → Q .normal (st u) w2) : (Code.region id l.toArray true).wp P Q a w := by
  subst ha
  refine wp_region_rel B _ hm hk hB ⟨u0, rfl, (fun _ h => by cases h), (Below.refl _ _).drew⟩ (steps_of_F hF hs) ?_
  rintro b a w2 hall ⟨u, rfl, hf, hb⟩
  exact hend u w2 hb fun i hi => hf i (hall i hi)

/-! ### The same rule with an invariant of one's own over what has been carried out: for stores in a forced order. -/
def factV (F : List (Value → Prop)) (i : Nat) : Value → Prop := F.getD i fun _ => True
def StepG (P : Program) (ops : Array Oper) (Q : Exit → Act → World → Prop) (B : List (List Nat)) (F : List (Value → Prop)) (st : (Nat → Value) → Act) (Inv : (Nat → Bool) → World → Prop) (i : Nat) (o : Oper) : Prop :=
  ∀ (b : Nat → Bool) (u : Nat → Value) (w2 : World), Inv b w2 → b i = false → (∀ j k, k ∈ B.getD j [] → b j = true → b k = true) → (∀ j ∈ B.getD i [], b j = true ∧ factV F j (u j)) → ∀ (J K : Act → World → Prop),
    (∀ v w3 a', Inv (upd b i) w3 → factV F i v → a' = st (setU u i v) → J a' w3) → (∀ a' w', StopF J a' w' → K a' w') → wpList P ops (Exit.then K Q) [o] (st u) w2
def StepsG (P : Program) (ops : Array Oper) (Q : Exit → Act → World → Prop) (B : List (List Nat)) (F : List (Value → Prop)) (st : (Nat → Value) → Act) (Inv : (Nat → Bool) → World → Prop) : List Oper → Nat → Prop
  | [], _ => True
  | o :: r, i => StepG P ops Q B F st Inv i o ∧ StepsG P ops Q B F st Inv r (i + 1)
theorem steps_of_G {B : List (List Nat)} {F : List (Value → Prop)} {st : (Nat → Value) → Act} {Inv : (Nat → Bool) → World → Prop} : ∀ {l : List Oper} {k : Nat}, StepsG P ops Q B F st Inv l k →
    StepsOf P ops Q B (fun b a w' => ∃ u : Nat → Value, a = st u ∧ (∀ i, b i = true → factV F i (u i)) ∧ (∀ j k, k ∈ B.getD j [] → b j = true → b k = true) ∧ Inv b w') l k
  | [], _, _ => trivial
  | _ :: _, i, hs => ⟨fun b a w2 hI hbi hB J K hJ hK => by
      obtain ⟨u, rfl, hf, hc, hv⟩ := hI
      refine hs.1 b u w2 hv hbi hc (fun j hj => ⟨hB j hj, hf j (hB j hj)⟩) (fun a' w' => Stop J b i a' w') K ?_ hK
      rintro v w3 _ hv3 hx rfl
      refine hJ _ _ _ ⟨setU u i v, rfl, ?_, ?_, hv3⟩
      · intro j hj
        by_cases h : j = i
        · rw [h, setU_self]
          exact hx
        · rw [upd_ne h] at hj
          rw [setU_ne h]
          exact hf j hj
      · intro j k hk hj
        by_cases hki : k = i
        · rw [hki, upd_self]
        · rw [upd_ne hki]
          by_cases hji : j = i
          · exact hB k (hji ▸ hk)
          · rw [upd_ne hji] at hj
            exact hc j k hk hj, steps_of_G hs.2⟩
theorem wp_region_inv {id : Nat} {l : List Oper} {a : Act} {w : World} (B : List (List Nat)) (F : List (Value → Prop)) (st : (Nat → Value) → Act) (Inv : (Nat → Bool) → World → Prop) (u0 : Nat → Value) (hm : P.follows .mixedOrders = true)
    (hk : backB l.toArray = true) (hB : aheadB l.toArray B = true) (ha : a = st u0) (h0 : Inv (fun _ => false) w.drew)
    (hs : StepsG P l.toArray Q B F st Inv l 0) (hend : ∀ b u w2, (∀ i, i < l.length → b i = true) → Inv b w2 → (∀ i, i < l.length → factV F i (u i)) → Q .normal (st u) w2) : (Code.region id l.toArray true).wp P Q a w := by
  subst ha
  refine wp_region_rel B _ hm hk hB ⟨u0, rfl, (fun _ h => by cases h), (fun _ _ _ h => by cases h), h0⟩ (steps_of_G hs) ?_
  rintro b a w2 hall ⟨u, rfl, hf, _, hv⟩
  exact hend b u w2 hall hv fun i hi => hf i (hall i hi)
end
end Go.Proofs.Ytjhnnnklfhbebaa
