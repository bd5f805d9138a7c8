/- Three pairs beside one another. -/
import Derived.Test.YtjhnnnklfhbebaaTiL
namespace Go.Proofs.Ytjhnnnklfhbebaa
open Go.RowKit
set_option linter.unusedVariables false
set_option linter.unusedSimpArgs false
/-- Two alike pairs, and a third one. -/
def SmAt (w0 : World) (gp gq gx : Nat) (P X : PS) (m mx : Nat) (L : List Item) (W : World) : Prop :=
  ∃ Vp Vq Vx, Made w0 (Item.many (pItems gp P Vp) :: Item.many (pItems gq P Vq) :: Item.many (pItems gx X Vx) :: L) W ∧ KOk P Vp ∧ KOk P Vq ∧ KOk X Vx ∧ PGood P m ∧ PGood X mx
theorem SmAt.ext {L : List Item} {w0 W W' : World} {gp gq gx m mx : Nat} {P X : PS} (h : SmAt w0 gp gq gx P X m mx L W) (hb : Below W.heap.size W W') : SmAt w0 gp gq gx P X m mx L W' := by
  obtain ⟨Vp, Vq, Vx, h1, h2⟩ := h
  exact ⟨Vp, Vq, Vx, h1.ext hb, h2⟩
theorem SmAt.below {L : List Item} {w0 W : World} {gp gq gx m mx : Nat} {P X : PS} (h : SmAt w0 gp gq gx P X m mx L W) : Below w0.heap.size w0 W := by
  obtain ⟨Vp, Vq, Vx, h1, h2⟩ := h
  exact h1.2
/-- Between the first one's act and the second one's. -/
def SmMid (w0 : World) (gp gq gx : Nat) (P Q X : PS) (m mx : Nat) (L : List Item) (W : World) : Prop :=
  ∃ Vp Vq Vx, Made w0 (Item.many (pItems gp P Vp) :: Item.many (pItems gq Q Vq) :: Item.many (pItems gx X Vx) :: L) W ∧ KOk P Vp ∧ KOk Q Vq ∧ KOk X Vx ∧ PGood Q m ∧ PGood X mx
section
variable {w0 W : World} {L : List Item} {gp gq gx m mx : Nat} {P X : PS}
theorem sm_x (h : SmAt w0 gp gq gx P X m mx L W) (hm : mx ≤ 100000000) (k : ActA) (A : Option Addr) (c : Nat) (ha : ActA.At w0 k A c) :
    Calls Try.prog 23 #[.pointer (some ⟨gx, 0, none⟩), .agg (k.cs A c).toArray] W fun e W' => e = .returned (.tuple #[]) ∧ SmAt w0 gp gq gx P (X.does k) m (mx + 1) L W' := by
  obtain ⟨Vp, Vq, Vx, h1, h2, h3, h4, h5, h6⟩ := h
  refine (made_does (j := 2) h1 rfl h4 h6 hm k A c ha).mono ?_
  rintro e W' ⟨rfl, V', h7, h8⟩
  exact ⟨rfl, Vp, Vq, V', h7, h2, h3, h8, h5, h6.does k⟩
theorem sm_p (h : SmAt w0 gp gq gx P X m mx L W) (hm : m ≤ 100000000) (k : ActA) (A : Option Addr) (c : Nat) (ha : ActA.At w0 k A c) :
    Calls Try.prog 23 #[.pointer (some ⟨gp, 0, none⟩), .agg (k.cs A c).toArray] W fun e W' => e = .returned (.tuple #[]) ∧ SmMid w0 gp gq gx (P.does k) P X m mx L W' := by
  obtain ⟨Vp, Vq, Vx, h1, h2, h3, h4, h5, h6⟩ := h
  refine (made_does (j := 0) h1 rfl h2 h5 hm k A c ha).mono ?_
  rintro e W' ⟨rfl, V', h7, h8⟩
  exact ⟨rfl, V', Vq, Vx, h7, h8, h3, h4, h5, h6⟩
theorem sm_q {k : ActA} (h : SmMid w0 gp gq gx (P.does k) P X m mx L W) (hm : m ≤ 100000000) (A : Option Addr) (c : Nat) (ha : ActA.At w0 k A c) :
    Calls Try.prog 23 #[.pointer (some ⟨gq, 0, none⟩), .agg (k.cs A c).toArray] W fun e W' => e = .returned (.tuple #[]) ∧ SmAt w0 gp gq gx (P.does k) X (m + 1) mx L W' := by
  obtain ⟨Vp, Vq, Vx, h1, h2, h3, h4, h5, h6⟩ := h
  refine (made_does (j := 1) h1 rfl h3 h5 hm k A c ha).mono ?_
  rintro e W' ⟨rfl, V', h7, h8⟩
  exact ⟨rfl, Vp, V', Vx, h7, h2, h8, h4, h5.does k, h6⟩
theorem SmMid.ext {Q : PS} {W' : World} (h : SmMid w0 gp gq gx P Q X m mx L W) (hb : Below W.heap.size W W') : SmMid w0 gp gq gx P Q X m mx L W' := by
  obtain ⟨Vp, Vq, Vx, h1, h2⟩ := h
  exact ⟨Vp, Vq, Vx, h1.ext hb, h2⟩
theorem SmAt.box (h : SmAt w0 gp gq gx P X m mx [] W) (t : TypeId) (cs : List Value) : SmAt w0 gp gq gx P X m mx [Item.bk W.heap.size t cs] (W.alloc (.cells cs.toArray t)) := by
  obtain ⟨Vp, Vq, Vx, h1, h2⟩ := h
  exact ⟨Vp, Vq, Vx, ⟨h1.1.add (Item.bk W.heap.size t cs) (ext_alloc _ _) (fun b hb => Nat.le_of_eq hb.symm) ⟨BK.new _ _ _, fun e => by
    rcases e with e | e
    · have := h1.2.size
      omega
    · have := h1.1.own_lt _ e
      omega⟩, h1.2.trans ((ext_alloc _ _).mono h1.2.size)⟩, h2⟩
theorem SmAt.unbox {K : Item} (h : SmAt w0 gp gq gx P X m mx [K] W) : SmAt w0 gp gq gx P X m mx [] W := by
  obtain ⟨Vp, Vq, Vx, h1, h2⟩ := h
  exact ⟨Vp, Vq, Vx, ⟨All.pop (l := [Item.many (pItems gp P Vp), Item.many (pItems gq P Vq), Item.many (pItems gx X Vx)]) h1.1, h1.2⟩, h2⟩
theorem SmAt.bk {g : Nat} {t : TypeId} {cs : List Value} (h : SmAt w0 gp gq gx P X m mx [Item.bk g t cs] W) : BK W g t cs := by
  obtain ⟨Vp, Vq, Vx, h1, h2⟩ := h
  exact (h1.1.get 3 rfl).1
theorem SmMid.bk {Q : PS} {g : Nat} {t : TypeId} {cs : List Value} (h : SmMid w0 gp gq gx P Q X m mx [Item.bk g t cs] W) : BK W g t cs := by
  obtain ⟨Vp, Vq, Vx, h1, h2⟩ := h
  exact (h1.1.get 3 rfl).1
end
end Go.Proofs.Ytjhnnnklfhbebaa
