/- A pair beside others: begun and does, for one of several things in memory. -/
import Derived.Test.YtjhnnnklfhbebaaTiK
namespace Go.Proofs.Ytjhnnnklfhbebaa
open Go.RowKit
set_option linter.unusedVariables false
section
variable {w0 W : World} {l : List Item} {j g m : Nat} {P : PS} {V : PV}
theorem made_does (h : Made w0 l W) (hj : l[j]? = some (Item.many (pItems g P V))) (hk : KOk P V) (hg : PGood P m) (hm : m ≤ 100000000) (k : ActA) (A : Option Addr) (c : Nat) (ha : ActA.At w0 k A c) :
    Calls Try.prog 23 #[.pointer (some ⟨g, 0, none⟩), .agg (k.cs A c).toArray] W fun e W' => e = .returned (.tuple #[]) ∧ ∃ V', Made w0 (l.set j (Item.many (pItems g (P.does k) V'))) W' ∧ KOk (P.does k) V' := by
  have hbl : k.b.length ≤ 9223372036854775807 := Nat.le_trans ha.bc ha.cm
  refine (does_calls (h.1.many hj) hk hg hm k A c (ha.ext h.2) hbl (fun h0 b o e => ?_)).mono ?_
  · obtain ⟨b', o', e', hc⟩ := ha.rb 0 h0
    rw [e] at e'
    injection e' with e'
    injection e' with e5 e6
    subst e5
    exact .inl (World.block_lt_of_cell? w0 _ hc)
  · rintro e W' ⟨rfl, V', hgo, hk'⟩
    exact ⟨rfl, V', h.goes (Goes.many h.1 hj hgo), hk'⟩
theorem made_begun (h : Made w0 l W) (iss irs : Nat) (hi : iss < 4294967296) (hr : irs < 4294967296) :
    Calls Try.prog 22 #[.int .u32 (iss : Int), .int .u32 (irs : Int)] W fun e W' => ∃ g V, e = .returned (.pointer (some ⟨g, 0, none⟩)) ∧ Made w0 (l ++ [Item.many (pItems g (PS.begun iss irs) V)]) W' ∧ KOk (PS.begun iss irs) V := by
  refine (begun_calls (N := fun b => b < w0.heap.size ∨ anyOwn l b) (fun b hb => hb.elim (fun e => Nat.lt_of_lt_of_le e h.2.size) (h.1.own_lt b)) iss irs hi).mono ?_
  rintro e W' ⟨g, V, rfl, hb, ha, ho, hk1, k, hk0⟩
  refine ⟨g, V, rfl, ⟨h.1.add (Item.many (pItems g (PS.begun iss irs) V)) hb (fun b hb => ho b hb) ha.2, h.2.trans (hb.mono h.2.size)⟩, fun i h2 => ?_⟩
  have e0 : ((PS.begun iss irs).c i).state = ((PS.asked (askS iss) irs).c i).state := by
    unfold PS.begun PS.out
    rw [outI_st, outI_st]
  rw [e0]
  rcases two_cases h2 with rfl | rfl
  · rw [hk0]
    refine ⟨fun e => (by cases e), fun e => absurd e ?_⟩
    have := (TS.dial_fine hi (ask_dial iss)).2.1
    show ¬ (askS iss).state = 0
    omega
  · rw [hk1]
    exact Iff.intro (fun _ => rfl) (fun _ => rfl)
end
end Go.Proofs.Ytjhnnnklfhbebaa
