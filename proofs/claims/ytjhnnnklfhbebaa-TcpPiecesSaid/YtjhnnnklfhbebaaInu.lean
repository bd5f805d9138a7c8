/- A rule for a region that draws its order, by an invariant over what has been carried out and what came of it; phases. -/
import Derived.Test.YtjhnnnklfhbebaaAny
namespace Go.Proofs.Ytjhnnnklfhbebaa
open Go.RowKit
set_option linter.unusedVariables false
section
variable {P : Program} {ops : Array Oper} {Q : Exit → Act → World → Prop}
def StepU (P : Program) (ops : Array Oper) (Q : Exit → Act → World → Prop) (B : List (List Nat)) (F : List (Value → Prop)) (st : (Nat → Value) → Act) (Inv : (Nat → Bool) → (Nat → Value) → World → Prop) (i : Nat) (o : Oper) : Prop :=
  ∀ (b : Nat → Bool) (u : Nat → Value) (w2 : World), Inv b u w2 → b i = false → (∀ j k, k ∈ B.getD j [] → b j = true → b k = true) → (∀ j ∈ B.getD i [], b j = true ∧ factV F j (u j)) → ∀ (J K : Act → World → Prop),
    (∀ v w3 a', Inv (upd b i) (setU u i v) w3 → factV F i v → a' = st (setU u i v) → J a' w3) → (∀ a' w', StopF J a' w' → K a' w') → wpList P ops (Exit.then K Q) [o] (st u) w2
def StepsU (P : Program) (ops : Array Oper) (Q : Exit → Act → World → Prop) (B : List (List Nat)) (F : List (Value → Prop)) (st : (Nat → Value) → Act) (Inv : (Nat → Bool) → (Nat → Value) → World → Prop) : List Oper → Nat → Prop
  | [], _ => True
  | o :: r, i => StepU P ops Q B F st Inv i o ∧ StepsU P ops Q B F st Inv r (i + 1)
theorem steps_of_U {B : List (List Nat)} {F : List (Value → Prop)} {st : (Nat → Value) → Act} {Inv : (Nat → Bool) → (Nat → Value) → World → Prop} : ∀ {l : List Oper} {k : Nat}, StepsU P ops Q B F st Inv l k →
    StepsOf P ops Q B (fun b a w' => ∃ u : Nat → Value, a = st u ∧ (∀ i, b i = true → factV F i (u i)) ∧ (∀ j k, k ∈ B.getD j [] → b j = true → b k = true) ∧ Inv b u w') l k
  | [], _, _ => trivial
  | _ :: _, i, hs => ⟨fun b a w2 hI hbi hB J K hJ hK => by
      obtain ⟨u, rfl, hf, hc, hv⟩ := hI
      refine hs.1 b u w2 hv hbi hc (fun j hj => ⟨hB j hj, hf j (hB j hj)⟩) (fun a' w' => Stop J b i a' w') K ?_ hK
      rintro v w3 _ hv3 hx rfl
      refine hJ _ _ _ ⟨setU u i v, rfl, ?_, ?_, hv3⟩
      · intro j hj
        by_cases h : j = i
        · rw [h, setU_self]
          exact hx
        · rw [upd_ne h] at hj
          rw [setU_ne h]
          exact hf j hj
      · intro j k hk hj
        by_cases hki : k = i
        · rw [hki, upd_self]
        · rw [upd_ne hki]
          by_cases hji : j = i
          · exact hB k (hji ▸ hk)
          · rw [upd_ne hji] at hj
            exact hc j k hk hj, steps_of_U hs.2⟩
theorem wp_region_inu {id : Nat} {l : List Oper} {a : Act} {w : World} (B : List (List Nat)) (F : List (Value → Prop)) (st : (Nat → Value) → Act) (Inv : (Nat → Bool) → (Nat → Value) → World → Prop) (u0 : Nat → Value) (hm : P.follows .mixedOrders = true)
    (hk : backB l.toArray = true) (hB : aheadB l.toArray B = true) (ha : a = st u0) (h0 : Inv (fun _ => false) u0 w.drew)
    (hs : StepsU P l.toArray Q B F st Inv l 0) (hend : ∀ b u w2, (∀ i, i < l.length → b i = true) → Inv b u w2 → (∀ i, i < l.length → factV F i (u i)) → Q .normal (st u) w2) : (Code.region id l.toArray true).wp P Q a w := by
  subst ha
  refine wp_region_rel B _ hm hk hB ⟨u0, rfl, (fun _ h => by cases h), (fun _ _ _ h => by cases h), h0⟩ (steps_of_U hs) ?_
  rintro b a w2 hall ⟨u, rfl, hf, _, hv⟩
  exact hend b u w2 hall hv fun i hi => hf i (hall i hi)
end
/-- Phases: three operations that write, one behind the other. -/
def Ph3 (e1 e2 e3 : Nat) (A0 : World → Prop) (A1 A2 : Value → World → Prop) (A3 : World → Prop) (b : Nat → Bool) (u : Nat → Value) (W : World) : Prop :=
  if b e3 = true then A3 W else if b e2 = true then A2 (u e2) W else if b e1 = true then A1 (u e1) W else A0 W
section
variable {e1 e2 e3 : Nat} {A0 : World → Prop} {A1 A2 : Value → World → Prop} {A3 : World → Prop} {b : Nat → Bool} {u : Nat → Value} {W : World}
theorem ph3_other {i : Nat} {v : Value} (h1 : e1 ≠ i) (h2 : e2 ≠ i) (h3 : e3 ≠ i) (h : Ph3 e1 e2 e3 A0 A1 A2 A3 b u W) : Ph3 e1 e2 e3 A0 A1 A2 A3 (upd b i) (setU u i v) W := by
  unfold Ph3 at h ⊢
  rw [upd_ne h1, upd_ne h2, upd_ne h3, setU_ne h1, setU_ne h2]
  exact h
theorem ph3_at1 {v : Value} (h12 : e2 ≠ e1) (h13 : e3 ≠ e1) (h2 : b e2 = false) (h3 : b e3 = false) (h : A1 v W) : Ph3 e1 e2 e3 A0 A1 A2 A3 (upd b e1) (setU u e1 v) W := by
  unfold Ph3
  rw [upd_ne h12, upd_ne h13, upd_self, setU_self, h2, h3]
  exact h
theorem ph3_at2 {v : Value} (h23 : e3 ≠ e2) (h3 : b e3 = false) (h : A2 v W) : Ph3 e1 e2 e3 A0 A1 A2 A3 (upd b e2) (setU u e2 v) W := by
  unfold Ph3
  rw [upd_ne h23, upd_self, setU_self, h3]
  exact h
theorem ph3_at3 {v : Value} (h : A3 W) : Ph3 e1 e2 e3 A0 A1 A2 A3 (upd b e3) (setU u e3 v) W := by
  unfold Ph3
  rw [upd_self]
  exact h
theorem ph3_e0 (h1 : b e1 = false) (h2 : b e2 = false) (h3 : b e3 = false) (h : Ph3 e1 e2 e3 A0 A1 A2 A3 b u W) : A0 W := by
  unfold Ph3 at h
  rw [h1, h2, h3] at h
  exact h
theorem ph3_e1 (h1 : b e1 = true) (h2 : b e2 = false) (h3 : b e3 = false) (h : Ph3 e1 e2 e3 A0 A1 A2 A3 b u W) : A1 (u e1) W := by
  unfold Ph3 at h
  rw [h1, h2, h3] at h
  exact h
theorem ph3_e2 (h2 : b e2 = true) (h3 : b e3 = false) (h : Ph3 e1 e2 e3 A0 A1 A2 A3 b u W) : A2 (u e2) W := by
  unfold Ph3 at h
  rw [h2, h3] at h
  exact h
theorem ph3_e3 (h3 : b e3 = true) (h : Ph3 e1 e2 e3 A0 A1 A2 A3 b u W) : A3 W := by
  unfold Ph3 at h
  rw [h3] at h
  exact h
/-- What holds in each phase but the last. -/
theorem ph3_R {R : World → Prop} (h0 : ∀ W, A0 W → R W) (h1 : ∀ v W, A1 v W → R W) (h2 : ∀ v W, A2 v W → R W) (h3 : b e3 = false) (h : Ph3 e1 e2 e3 A0 A1 A2 A3 b u W) : R W := by
  unfold Ph3 at h
  rw [h3, if_neg (by decide)] at h
  split at h
  · exact h2 _ _ h
  · split at h
    · exact h1 _ _ h
    · exact h0 _ h
/-- What is behind another one is not carried out ahead of it. -/
theorem not_yet {B : List (List Nat)} {i j : Nat} (hC : ∀ j k, k ∈ B.getD j [] → b j = true → b k = true) (hi : b i = false) (h : i ∈ B.getD j []) : b j = false := by
  cases e : b j with
  | false => rfl
  | true => rw [hC j i h e] at hi; cases hi
end
end Go.Proofs.Ytjhnnnklfhbebaa
