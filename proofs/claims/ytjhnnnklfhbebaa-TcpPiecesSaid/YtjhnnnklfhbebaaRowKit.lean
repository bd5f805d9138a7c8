/- What a row's arguments read as: byte slices, slices of byte slices. No program. -/
import Derived.Test.YtjhnnnklfhbebaaBase
import Derived.ProofKit
import Derived.OpenShut
import Derived.ShutString
import Derived.SizedLaws
import Derived.Deep.Slices
namespace Go.Proofs.Ytjhnnnklfhbebaa
open Go.RowKit Go.ChangeShapes Go.WideShapes Go.ChangeAt Go.Deep

theorem addr_plain {w : World} {x : Addr} {v : Value} (h : w.cell? (x.add 0) = some v) : ∃ b o, x = ⟨b, o, none⟩ := by
  obtain ⟨b, o, s⟩ := x
  cases s with
  | none => exact ⟨b, o, rfl⟩
  | some s =>
    exfalso
    have e : (⟨b, o, some s⟩ : Addr).add 0 = ⟨b, o, some s⟩ := rfl
    rw [e] at h
    unfold World.cell? at h
    split at h <;> simp at h
theorem add_plain' (b o i : Nat) : (⟨b, o, none⟩ : Addr).add i = ⟨b, o + i, none⟩ := by unfold Addr.add; split <;> simp_all

section
variable {H : Type} {enc : TypeId × Value → H} {P : Program} {w : World} {base : Nat} {held : Bool}

theorem openB {t e : TypeId} {fuel : Nat} {cs : List Value} {x : DataW H × List MemPlace} (ht : P.underlying t = some (.slice e)) (he : P.underlying e = some (.int .u8)) (hc : P.cellsOf e = 1) (hB : P.bytesOf e = 1)
    (h : DataW.trod enc P w base (fun _ => true) held fuel t cs = some x) (hsz : ∀ n ∈ x.1.weights P t, n ≤ reachBytes) :
    ∃ A c l, cs = [.slice A (l : List UInt8).length c] ∧ RB w A l ∧ l.length ≤ c ∧ l.length ≤ 140737488351232 := by
  rcases open_ints ht he hc h with ⟨rfl, rfl⟩ | ⟨a, len, cap, zs, rfl, _, hl, hm, hz, rfl, hcell, hwz⟩
  · exact ⟨none, 0, [], rfl, RB.nil _ _, Nat.le_refl _, by simp⟩
  · simp only [if_true] at hz
    have h1 : (zs.take len).length + (zs.drop len).length = zs.length := by simp; omega
    have hw : zs.length * P.bytesOf e ≤ reachBytes := by
      have := hsz (((zs.take len).length + (zs.drop len).length) * P.bytesOf e) (by simp only [DataW.weights, ht]; simp [lits])
      rwa [h1] at this
    rw [hB] at hw
    have hlen : ((zs.take len).map fun n : Int => UInt8.ofNat n.toNat).length = len := by simp; omega
    refine ⟨some a, cap, (zs.take len).map fun n => UInt8.ofNat n.toNat, by rw [hlen], ?_, by rw [hlen]; exact hl, by rw [hlen]; simp [reachBytes] at hw; omega⟩
    intro i hi
    rw [hlen] at hi
    obtain ⟨b, o, rfl⟩ := addr_plain (hcell 0 (by omega))
    refine ⟨b, o, rfl, ?_⟩
    rw [← add_plain', hcell i (by omega)]
    have hlt : i < zs.length := by omega
    have hwf := bounds_u8 (hwz (zs[i]) (List.getElem_mem hlt))
    simp only [gb, List.getD_eq_getElem?_getD, List.getElem?_map, List.getElem?_take, if_pos hi, List.getElem?_eq_getElem hlt, Option.map_some, Option.getD_some, UInt8.toNat_ofNat']
    congr 2
    omega

theorem openBm {t e : TypeId} {fuel : Nat} {cs : List Value} {x : DataW H × List MemPlace} (ht : P.underlying t = some (.slice e)) (he : P.underlying e = some (.int .u8)) (hc : P.cellsOf e = 1) (hB : P.bytesOf e = 1)
    (h : DataW.trod enc P w base (fun _ => true) held fuel t cs = some x) (hsz : ∀ n ∈ x.1.weights P t, n ≤ reachBytes) :
    ∃ A c l, cs = [.slice A (l : List UInt8).length c] ∧ RB w A l ∧ l.length ≤ c ∧ l.length ≤ 140737488351232 ∧ c ≤ maxLen := by
  rcases open_ints ht he hc h with ⟨rfl, rfl⟩ | ⟨a, len, cap, zs, rfl, _, hl, hm, hz, rfl, hcell, hwz⟩
  · exact ⟨none, 0, [], rfl, RB.nil _ _, Nat.le_refl _, by simp, Nat.zero_le _⟩
  · simp only [if_true] at hz
    have h1 : (zs.take len).length + (zs.drop len).length = zs.length := by simp; omega
    have hw : zs.length * P.bytesOf e ≤ reachBytes := by
      have := hsz (((zs.take len).length + (zs.drop len).length) * P.bytesOf e) (by simp only [DataW.weights, ht]; simp [lits])
      rwa [h1] at this
    rw [hB] at hw
    have hlen : ((zs.take len).map fun n : Int => UInt8.ofNat n.toNat).length = len := by simp; omega
    refine ⟨some a, cap, (zs.take len).map fun n => UInt8.ofNat n.toNat, by rw [hlen], ?_, by rw [hlen]; exact hl, by rw [hlen]; simp [reachBytes] at hw; omega, hm⟩
    intro i hi
    rw [hlen] at hi
    obtain ⟨b, o, rfl⟩ := addr_plain (hcell 0 (by omega))
    refine ⟨b, o, rfl, ?_⟩
    rw [← add_plain', hcell i (by omega)]
    have hlt : i < zs.length := by omega
    have hwf := bounds_u8 (hwz (zs[i]) (List.getElem_mem hlt))
    simp only [gb, List.getD_eq_getElem?_getD, List.getElem?_map, List.getElem?_take, if_pos hi, List.getElem?_eq_getElem hlt, Option.map_some, Option.getD_some, UInt8.toNat_ofNat']
    congr 2
    omega

theorem mem_weightsAll {e : TypeId} {n : Nat} : ∀ {l : List (DataW H)} {d : DataW H}, d ∈ l → n ∈ d.weights P e → n ∈ DataW.weightsAll P e l
  | a :: r, d, hd, hn => by
    rw [DataW.weightsAll, List.mem_append]
    rcases List.mem_cons.1 hd with rfl | hd
    · exact .inl hn
    · exact .inr (mem_weightsAll hd hn)
  | [], _, hd, _ => by cases hd

theorem openBB {t e q : TypeId} {fuel : Nat} {cs : List Value} {x : DataW H × List MemPlace} (ht : P.underlying t = some (.slice e)) (he : P.underlying e = some (.slice q)) (hq : P.underlying q = some (.int .u8)) (ce : P.cellsOf e = 1) (be : P.bytesOf e = 24) (cq : P.cellsOf q = 1) (hB : P.bytesOf q = 1)
    (h : DataW.trod enc P w base (fun _ => true) held fuel t cs = some x) (hsz : ∀ n ∈ x.1.weights P t, n ≤ reachBytes) :
    ∃ A c ls, cs = [.slice A (ls : List (List UInt8)).length c] ∧ RBB w A ls ∧ ls.length ≤ c ∧ ls.length ≤ 5864062014640 ∧ ∀ i, i < ls.length → (ls.getD i []).length ≤ 140737488351232 := by
  rcases open_slice1 ht ce h with ⟨rfl, rfl⟩ | ⟨a, len, cap, m, n, V, D, Pl, rfl, _, hl, hm, hmm, rfl, hx⟩
  · exact ⟨none, 0, [], rfl, fun i hi => absurd hi (by simp), Nat.le_refl _, by simp, fun i hi => absurd hi (by simp)⟩
  · simp only [if_true] at hmm
    subst hmm
    have hw : (((List.range len).map D).length + ((List.range (m - len)).map fun j => D (len + j)).length) * P.bytesOf e ≤ reachBytes := hsz _ (by simp only [DataW.weights, ht]; simp)
    rw [be] at hw
    simp only [List.length_map, List.length_range] at hw
    have each : ∀ i, i < len → ∃ y : Option Addr × Nat × List UInt8, V i = .slice y.1 y.2.2.length y.2.1 ∧ RB w y.1 y.2.2 ∧ y.2.2.length ≤ y.2.1 ∧ y.2.2.length ≤ 140737488351232 := by
      intro i hi
      obtain ⟨A, c, l, e1, e2, e3, e4⟩ := openB he hq cq hB (hx i (by omega)).2 (fun n hn => hsz n (by
        simp only [DataW.weights, ht]
        refine List.mem_cons_of_mem _ (List.mem_append.2 (.inl (mem_weightsAll (d := D i) ?_ hn)))
        exact List.mem_map.2 ⟨i, List.mem_range.2 hi, rfl⟩))
      exact ⟨(A, c, l), by simpa using e1, e2, e3, e4⟩
    obtain ⟨y, hy⟩ := choose_lt each
    have hlen : ((List.range len).map fun i => (y i).2.2).length = len := by simp
    have hget : ∀ i, i < len → ((List.range len).map fun i => (y i).2.2).getD i [] = (y i).2.2 := by
      intro i hi
      simp [List.getD_eq_getElem?_getD, hi]
    refine ⟨some a, m, (List.range len).map fun i => (y i).2.2, by rw [hlen], ?_, by rw [hlen]; exact hl, by rw [hlen]; simp [reachBytes] at hw; omega, ?_⟩
    · intro i hi
      rw [hlen] at hi
      obtain ⟨b, o, rfl⟩ := addr_plain (hx 0 (by omega)).1
      refine ⟨b, o, (y i).1, (y i).2.1, rfl, ?_, ?_, ?_⟩
      · rw [← add_plain', (hx i (by omega)).1, (hy i hi).1, hget i hi]
      · rw [hget i hi]; exact (hy i hi).2.1
      · rw [hget i hi]; exact (hy i hi).2.2.1
    · intro i hi
      rw [hlen] at hi
      rw [hget i hi]; exact (hy i hi).2.2.2

theorem openI {t e : TypeId} {fuel : Nat} {cs : List Value} {x : DataW H × List MemPlace} (ht : P.underlying t = some (.slice e)) (he : P.underlying e = some (.int .i64)) (hc : P.cellsOf e = 1) (hB : P.bytesOf e = 8)
    (h : DataW.trod enc P w base (fun _ => true) held fuel t cs = some x) (hsz : ∀ n ∈ x.1.weights P t, n ≤ reachBytes) :
    ∃ A c l, cs = [.slice A (l : List Int).length c] ∧ RZ w A l ∧ l.length ≤ c ∧ l.length ≤ 17592186043904 ∧ ∀ i, -9223372036854775808 ≤ l.getD i 0 ∧ l.getD i 0 ≤ 9223372036854775807 := by
  rcases open_ints ht he hc h with ⟨rfl, rfl⟩ | ⟨a, len, cap, zs, rfl, _, hl, hm, hz, rfl, hcell, hwz⟩
  · exact ⟨none, 0, [], rfl, fun i hi => absurd hi (by simp), Nat.le_refl _, by simp, by simp⟩
  · simp only [if_true] at hz
    have h1 : (zs.take len).length + (zs.drop len).length = zs.length := by simp; omega
    have hw : zs.length * P.bytesOf e ≤ reachBytes := by
      have := hsz (((zs.take len).length + (zs.drop len).length) * P.bytesOf e) (by simp only [DataW.weights, ht]; simp [lits])
      rwa [h1] at this
    rw [hB] at hw
    have hlen : (zs.take len).length = len := by simp; omega
    refine ⟨some a, cap, zs.take len, by rw [hlen], ?_, by rw [hlen]; exact hl, by rw [hlen]; simp [reachBytes] at hw; omega, ?_⟩
    · intro i hi
      rw [hlen] at hi
      obtain ⟨b, o, rfl⟩ := addr_plain (hcell 0 (by omega))
      refine ⟨b, o, rfl, ?_⟩
      rw [← add_plain', hcell i (by omega)]
      simp only [List.getD_eq_getElem?_getD, List.getElem?_take, if_pos hi]
    · intro i
      by_cases hi : i < len
      · have hlt : i < zs.length := by omega
        have hwf := bounds_i64 (hwz (zs[i]) (List.getElem_mem hlt))
        simp only [List.getD_eq_getElem?_getD, List.getElem?_take, if_pos hi, List.getElem?_eq_getElem hlt, Option.getD_some]
        omega
      · simp only [List.getD_eq_getElem?_getD, List.getElem?_take, if_neg hi]
        simp

/-- Of one argument, out of the row's weights. -/
theorem weight_of {ts : List TypeId} {ds : List (DataW H)} (h : (DataW.weightsEach P ts ds).all (· ≤ reachBytes) = true) {j : Nat} {t : TypeId} {d : DataW H} (ht : ts[j]? = some t) (hd : ds[j]? = some d) :
    ∀ n ∈ d.weights P t, n ≤ reachBytes := fun n hn => by
  have := List.all_eq_true.1 h _ (DataW.weights_mem_each ht hd n hn)
  simpa using this
end
theorem laidMet_tail {P : Program} {x : String × DataW Unit} {rest : List (String × DataW Unit)} {W : World} (h : laidMet P (x :: rest) W) : laidMet P rest W := by
  obtain ⟨n, d⟩ := x
  obtain ⟨ps, ⟨g, t, cs, fuel, p, q, h1, h2, h3, h4, h5, rfl⟩, hn, hc⟩ := h
  exact ⟨q, h5, (List.nodup_append.1 hn).2.1, fun b off hm => hc b off (List.mem_append_right _ hm)⟩
end Go.Proofs.Ytjhnnnklfhbebaa
