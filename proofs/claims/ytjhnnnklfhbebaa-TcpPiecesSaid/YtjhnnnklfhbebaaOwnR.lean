/- A rule for a region that draws its order, by facts, in which one operation (T) may write into one older block of the call's own, and a later one (L), behind all the others, into any of the call's own. -/
import Derived.Test.YtjhnnnklfhbebaaAny
import Derived.Test.YtjhnnnklfhbebaaBlk
namespace Go.Proofs.Ytjhnnnklfhbebaa
open Go.RowKit
set_option linter.unusedVariables false
section
variable {P : Program} {ops : Array Oper} {Q : Exit → Act → World → Prop}
/-- A fact that a write into block 'row' leaves. -/
def MonoRow (row : Option Nat) (f : Value → World → Prop) : Prop := ∀ v w1 w2, w1.grownBy w2 row → f v w1 → f v w2
def MonoRows (row : Option Nat) (T L : Nat) : List (Value → World → Prop) → Nat → Prop
  | [], _ => True
  | f :: r, i => (i = T ∨ L ≤ i ∨ MonoRow row f) ∧ MonoRows row T L r (i + 1)
theorem MonoRow.eq (row : Option Nat) (x : Value) : MonoRow row (fun u _ => u = x) := fun _ _ _ _ h => h
theorem MonoRow.triv (row : Option Nat) : MonoRow row (fun _ _ => True) := fun _ _ _ _ h => h
theorem MonoRows.at {row : Option Nat} {T L : Nat} : ∀ {F : List (Value → World → Prop)} {k : Nat}, MonoRows row T L F k → ∀ i, k + i ≠ T → k + i < L → MonoRow row (factAt F i)
  | [], _, _, _, _, _ => fun _ _ _ _ _ => trivial
  | _ :: _, k, h, 0, hi, hl => (h.1.resolve_left hi).resolve_left (by omega)
  | _ :: _, k, h, i + 1, hi, hl => MonoRows.at h.2 i (by omega) (by omega)
def StepW (P : Program) (ops : Array Oper) (Q : Exit → Act → World → Prop) (B : List (List Nat)) (F : List (Value → World → Prop)) (st : (Nat → Value) → Act) (u0 : Nat → Value) (B0 : Nat) (w0 : World) (S : Nat) (G0 : World → Prop) (row : Option Nat) (T L : Nat) (i : Nat) (o : Oper) : Prop :=
  ∀ (u : Nat → Value) (w2 : World), Below B0 w0 w2 → S ≤ w2.heap.size → (i ≤ T → G0 w2) → (∀ j ∈ B.getD i [], (i ≤ L ∨ L ≤ j) → factAt F j (u j) w2) → (∀ j, i ∈ B.getD j [] → u j = u0 j) → ∀ (J K : Act → World → Prop),
    (∀ v w3 a', ((i ≠ T ∧ i ≠ L → Below w2.heap.size w2 w3) ∧ (i = T → w2.grownBy w3 row) ∧ Below B0 w0 w3 ∧ w2.heap.size ≤ w3.heap.size) → factAt F i v w3 → a' = st (setU u i v) → J a' w3) → (∀ a' w', StopF J a' w' → K a' w') → wpList P ops (Exit.then K Q) [o] (st u) w2
def StepsW (P : Program) (ops : Array Oper) (Q : Exit → Act → World → Prop) (B : List (List Nat)) (F : List (Value → World → Prop)) (st : (Nat → Value) → Act) (u0 : Nat → Value) (B0 : Nat) (w0 : World) (S : Nat) (G0 : World → Prop) (row : Option Nat) (T L : Nat) : List Oper → Nat → Prop
  | [], _ => True
  | o :: r, i => StepW P ops Q B F st u0 B0 w0 S G0 row T L i o ∧ StepsW P ops Q B F st u0 B0 w0 S G0 row T L r (i + 1)
/-- Each number below T is ahead of T (so T comes behind it), each below L ahead of L, L ahead of each above it. -/
def orderB (B : List (List Nat)) (T L n : Nat) : Bool :=
  ((List.range T).all fun i => (B.getD T []).contains i) && ((List.range L).all fun i => (B.getD L []).contains i) && ((List.range n).all fun i => i ≤ L || (B.getD i []).contains L) && decide (T < L)
def InvW (B : List (List Nat)) (F : List (Value → World → Prop)) (st : (Nat → Value) → Act) (u0 : Nat → Value) (B0 : Nat) (w0 : World) (S : Nat) (G0 : World → Prop) (T L : Nat) (b : Nat → Bool) (a : Act) (w : World) : Prop :=
  ∃ u : Nat → Value, a = st u ∧ (∀ j, b j = false → u j = u0 j) ∧ (∀ j k, k ∈ B.getD j [] → b j = true → b k = true) ∧ Below B0 w0 w ∧ S ≤ w.heap.size ∧ (b T = false → G0 w) ∧ (∀ j, b j = true → (L ≤ j ∨ b L = false) → factAt F j (u j) w)
theorem steps_of_W {B : List (List Nat)} {F : List (Value → World → Prop)} {st : (Nat → Value) → Act} {u0 : Nat → Value} {B0 : Nat} {w0 : World} {S : Nat} {G0 : World → Prop} {row : Option Nat} {T L n : Nat} (hF : MonoAll F) (hR : MonoRows row T L F 0)
    (hG : ∀ w1 w2, Below w1.heap.size w1 w2 → G0 w1 → G0 w2) (hO : orderB B T L n = true) (hFn : F.length ≤ n) : ∀ {l : List Oper} {k : Nat}, k + l.length ≤ n → StepsW P ops Q B F st u0 B0 w0 S G0 row T L l k → StepsOf P ops Q B (InvW B F st u0 B0 w0 S G0 T L) l k
  | [], _, _, _ => trivial
  | _ :: r, i, hn, hs => ⟨fun b a w2 hI hbi hB J K hJ hK => by
      obtain ⟨u, rfl, hz, hc, hb, hS, hg, hf⟩ := hI
      simp only [orderB, Bool.and_eq_true, List.all_eq_true, List.mem_range, List.contains_eq_mem, decide_eq_true_eq, Bool.or_eq_true] at hO
      obtain ⟨⟨⟨o1, o2⟩, o3⟩, o4⟩ := hO
      have hiL : i ≤ L → b L = false := fun h => by
        cases hb' : b L with
        | false => rfl
        | true =>
          rcases Nat.lt_or_eq_of_le h with h | h
          · have := hc L i (o2 i h) hb'; rw [hbi] at this; cases this
          · rw [← h, hbi] at hb'; cases hb'
      have hiT : i ≤ T → b T = false := fun h => by
        cases hb' : b T with
        | false => rfl
        | true =>
          rcases Nat.lt_or_eq_of_le h with h | h
          · have := hc T i (o1 i h) hb'; rw [hbi] at this; cases this
          · rw [← h, hbi] at hb'; cases hb'
      refine hs.1 u w2 hb hS (fun h => hg (hiT h)) (fun j hj hl => hf j (hB j hj) (hl.elim (fun h => .inr (hiL h)) .inl)) (fun j hj => hz j (by
        cases hbj : b j with
        | false => rfl
        | true => rw [hc j i hj hbj] at hbi; cases hbi)) (fun a' w' => Stop J b i a' w') K ?_ hK
      rintro v w3 _ ⟨hn1, hn2, hb3, hz3⟩ hv rfl
      refine hJ _ _ _ ⟨setU u i v, rfl, ?_, ?_, hb3, Nat.le_trans hS hz3, ?_, ?_⟩
      · intro j hj
        by_cases h : j = i
        · rw [h, upd_self] at hj; cases hj
        · rw [upd_ne h] at hj
          rw [setU_ne h]
          exact hz j hj
      · intro j k hk hj
        by_cases hki : k = i
        · rw [hki, upd_self]
        · rw [upd_ne hki]
          by_cases hji : j = i
          · exact hB k (hji ▸ hk)
          · rw [upd_ne hji] at hj
            exact hc j k hk hj
      · intro hT
        have hTi : T ≠ i := fun h => by rw [h, upd_self] at hT; cases hT
        rw [upd_ne hTi] at hT
        have hLi : i ≠ L := fun h => by
          have := hB T (h ▸ o2 T o4); rw [hT] at this; cases this
        exact hG _ _ (hn1 ⟨fun h => hTi h.symm, hLi⟩) (hg hT)
      · intro j hj hl
        by_cases h : j = i
        · rw [h, setU_self]
          exact hv
        · rw [upd_ne h] at hj
          rw [setU_ne h]
          by_cases hLi : i = L
          · rcases hl with hl | hl
            · have hjn : L < j := by omega
              have hjm : j < n ∨ n ≤ j := by omega
              rcases hjm with hjm | hjm
              · rcases o3 j hjm with h3 | h3
                · omega
                · have := hc j L h3 hj
                  rw [← hLi, hbi] at this; cases this
              · unfold factAt
                rw [List.getD_eq_getElem?_getD, List.getElem?_eq_none (by omega)]
                trivial
            · rw [← hLi, upd_self] at hl; cases hl
          · have hl' : L ≤ j ∨ b L = false := hl.imp_right fun h => by rwa [upd_ne (fun e => hLi e.symm)] at h
            by_cases hTi : i = T
            · by_cases hjn : j < n
              · have hbL := hiL (by omega)
                have hjL : j < L := by
                  rcases Nat.lt_trichotomy j L with h5 | h5 | h5
                  · exact h5
                  · rw [h5, hbL] at hj; cases hj
                  · rcases o3 j hjn with h3 | h3
                    · omega
                    · have := hc j L h3 hj
                      rw [hbL] at this; cases this
                exact MonoRows.at hR j (by omega) (by omega) _ _ _ (hn2 hTi) (hf j hj hl')
              · unfold factAt
                rw [List.getD_eq_getElem?_getD, List.getElem?_eq_none (by omega)]
                trivial
            · exact MonoAll.at hF j _ _ _ (hn1 ⟨hTi, hLi⟩) (hf j hj hl'), steps_of_W hF hR hG hO hFn (by simp at hn; omega) hs.2⟩
/-- THE RULE. v0: the older slice, owned; T appends to it; L is the last that writes. -/
theorem wp_region_own {id : Nat} {l : List Oper} {a : Act} {w : World} (B : List (List Nat)) (F : List (Value → World → Prop)) (st : (Nat → Value) → Act) (B0 : Nat) (w0 : World) (G0 : World → Prop) (row : Option Nat) (T L : Nat) (u0 : Nat → Value) (hm : P.follows .mixedOrders = true)
    (hk : backB l.toArray = true) (hB : aheadB l.toArray B = true) (ha : a = st u0) (hO : orderB B T L l.length = true) (hFn : F.length ≤ l.length) (hF : MonoAll F) (hR : MonoRows row T L F 0)
    (hG : ∀ w1 w2, Below w1.heap.size w1 w2 → G0 w1 → G0 w2) (hb0 : Below B0 w0 w) (hg0 : G0 w)
    (hs : StepsW P l.toArray Q B F st u0 B0 w0 w.heap.size G0 row T L l 0) (hend : ∀ u w2, Below B0 w0 w2 → w.heap.size ≤ w2.heap.size → (∀ i, L ≤ i → i < l.length → factAt F i (u i) w2) → Q .normal (st u) w2) : (Code.region id l.toArray true).wp P Q a w := by
  subst ha
  refine wp_region_rel B _ hm hk hB ⟨u0, rfl, (fun _ _ => rfl), (fun _ _ _ h => by cases h), hb0.drew, Nat.le_refl _, (fun _ => hG _ _ (Below.refl _ _).drew hg0), (fun _ h => by cases h)⟩ (steps_of_W hF hR hG hO hFn (by simp) hs) ?_
  rintro b a w2 hall ⟨u, rfl, _, _, hb, hS, _, hf⟩
  exact hend u w2 hb hS fun i hL hi => hf i (hall i hi) (.inl hL)
end
end Go.Proofs.Ytjhnnnklfhbebaa
