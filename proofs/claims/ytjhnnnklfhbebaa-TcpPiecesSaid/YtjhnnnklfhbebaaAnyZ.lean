/- The rule by facts of XAny, where a slot that is written late is read ahead of that: what is not carried out yet has its first value. No program. -/
import Derived.Test.YtjhnnnklfhbebaaAny
namespace Go.Proofs.Ytjhnnnklfhbebaa
open Go.RowKit
set_option linter.unusedVariables false
section
variable {P : Program} {ops : Array Oper} {Q : Exit → Act → World → Prop}
def StepH (P : Program) (ops : Array Oper) (Q : Exit → Act → World → Prop) (B : List (List Nat)) (F : List (Value → World → Prop)) (st : (Nat → Value) → Act) (u0 : Nat → Value) (w : World) (i : Nat) (o : Oper) : Prop :=
  ∀ (u : Nat → Value) (w2 : World), Below w.heap.size w w2 → (∀ j ∈ B.getD i [], factAt F j (u j) w2) → (∀ j, i ∈ B.getD j [] → u j = u0 j) → ∀ (J K : Act → World → Prop),
    (∀ v w3 a', Below w2.heap.size w2 w3 → factAt F i v w3 → a' = st (setU u i v) → J a' w3) → (∀ a' w', StopF J a' w' → K a' w') → wpList P ops (Exit.then K Q) [o] (st u) w2
def StepsH (P : Program) (ops : Array Oper) (Q : Exit → Act → World → Prop) (B : List (List Nat)) (F : List (Value → World → Prop)) (st : (Nat → Value) → Act) (u0 : Nat → Value) (w : World) : List Oper → Nat → Prop
  | [], _ => True
  | o :: r, i => StepH P ops Q B F st u0 w i o ∧ StepsH P ops Q B F st u0 w r (i + 1)
theorem steps_of_H {B : List (List Nat)} {F : List (Value → World → Prop)} {st : (Nat → Value) → Act} {u0 : Nat → Value} {w : World} (hF : MonoAll F) : ∀ {l : List Oper} {k : Nat}, StepsH P ops Q B F st u0 w l k →
    StepsOf P ops Q B (fun b a w' => ∃ u : Nat → Value, a = st u ∧ (∀ i, b i = true → factAt F i (u i) w') ∧ (∀ i, b i = false → u i = u0 i) ∧ (∀ j k, k ∈ B.getD j [] → b j = true → b k = true) ∧ Below w.heap.size w w') l k
  | [], _, _ => trivial
  | _ :: _, i, hs => ⟨fun b a w2 hI hbi hB J K hJ hK => by
      obtain ⟨u, rfl, hf, h0, hc, hb⟩ := hI
      have hnot : ∀ j, i ∈ B.getD j [] → u j = u0 j := fun j hj => h0 j (by
        cases hbj : b j with
        | false => rfl
        | true => rw [hc j i hj hbj] at hbi; cases hbi)
      refine hs.1 u w2 hb (fun j hj => hf j (hB j hj)) hnot (fun a' w' => Stop J b i a' w') K ?_ hK
      rintro v w3 _ hb3 hv rfl
      refine hJ _ _ _ ⟨setU u i v, rfl, ?_, ?_, ?_, hb.trans (hb3.mono hb.size)⟩
      · intro j hj
        by_cases h : j = i
        · rw [h, setU_self]
          exact hv
        · rw [upd_ne h] at hj
          rw [setU_ne h]
          exact MonoAll.at hF j _ _ _ hb3 (hf j hj)
      · intro j hj
        by_cases h : j = i
        · rw [h, upd_self] at hj; cases hj
        · rw [upd_ne h] at hj
          rw [setU_ne h]
          exact h0 j hj
      · intro j k hk hj
        by_cases hki : k = i
        · rw [hki, upd_self]
        · rw [upd_ne hki]
          by_cases hji : j = i
          · exact hB k (hji ▸ hk)
          · rw [upd_ne hji] at hj
            exact hc j k hk hj, steps_of_H hF hs.2⟩
theorem wp_region_facts0 {id : Nat} {l : List Oper} {a : Act} {w : World} (B : List (List Nat)) (F : List (Value → World → Prop)) (st : (Nat → Value) → Act) (u0 : Nat → Value) (hm : P.follows .mixedOrders = true)
    (hk : backB l.toArray = true) (hB : aheadB l.toArray B = true) (ha : a = st u0) (hF : MonoAll F)
    (hs : StepsH P l.toArray Q B F st u0 w l 0) (hend : ∀ u w2, Below w.heap.size w w2 → (∀ i, i < l.length → factAt F i (u i) w2) → Q .normal (st u) w2) : (Code.region id l.toArray true).wp P Q a w := by
  subst ha
  refine wp_region_rel B _ hm hk hB ⟨u0, rfl, (fun _ h => by cases h), (fun _ _ => rfl), (fun _ _ _ h => by cases h), (Below.refl _ _).drew⟩ (steps_of_H hF hs) ?_
  rintro b a w2 hall ⟨u, rfl, hf, _, _, hb⟩
  exact hend u w2 hb fun i hi => hf i (hall i hi)
end
end Go.Proofs.Ytjhnnnklfhbebaa
