/- rabin: what a roller has rolled over; fingerprints as what is left of a number. -/
import Derived.Test.YtmohjgcnhibkoaaRabH
namespace Go.Proofs.Ytmohjgcnhibkoaa
open Go.RowKit
set_option linter.unusedVariables false

/-! ### plain -/
/-- The number that bytes make, the first one highest. -/
def beN (l : List UInt8) : Nat := l.foldl (fun a x => a * 256 + x.toNat) 0
theorem beN_append (l : List UInt8) (x : UInt8) : beN (l ++ [x]) = beN l * 256 + x.toNat := by simp [beN, List.foldl_append]
theorem foldl_be (l : List UInt8) : ∀ a, l.foldl (fun a x => a * 256 + x.toNat) a = a * 256 ^ l.length + beN l := by
  induction l with
  | nil => intro a; simp [beN]
  | cons y l ih =>
    intro a
    have e : beN (y :: l) = (0 * 256 + y.toNat) * 256 ^ l.length + beN l := ih (0 * 256 + y.toNat)
    rw [List.foldl_cons, ih, e, List.length_cons, Nat.add_mul, Nat.zero_mul, Nat.zero_add, Nat.pow_succ, Nat.mul_assoc, Nat.mul_comm 256 (256 ^ l.length), Nat.add_assoc]
theorem beN_cons (y : UInt8) (l : List UInt8) : beN (y :: l) = y.toNat * 256 ^ l.length + beN l := by
  rw [beN, List.foldl_cons, foldl_be]; simp
theorem beN_lt (l : List UInt8) : beN l < 256 ^ l.length := by
  induction l with
  | nil => simp [beN]
  | cons y l ih =>
    rw [beN_cons, List.length_cons, Nat.pow_succ]
    have := y.toNat_lt
    have h : y.toNat * 256 ^ l.length ≤ 255 * 256 ^ l.length := Nat.mul_le_mul_right _ (by omega)
    omega
theorem md_256 (a b p : Nat) (hb : b < 256) : md (md a p * 256 + b) p = md (a * 256 + b) p := by
  have e : ∀ c, c * 256 + b = c * 2 ^ 8 ^^^ b := fun c => by rw [xor_add (k := 8) (by simpa using hb)]
  have h : md (md a p * 2 ^ 8) p = md (a * 2 ^ 8) p := by
    by_cases hp : p = 0
    · subst hp; rw [md_zero_right a]
    · exact md_eq ((md_cg a p hp).symm.pow 8)
  rw [e, e, md_xor, md_xor, h]
/-- A fingerprint is what is left of the number. -/
theorem prN_be (p : Nat) (l : List UInt8) : prN p l = md (beN l) p := by
  have key : ∀ (m : List UInt8) (f : Nat), m.foldl (fun f x => addN p f x.toNat) (md f p) = md (m.foldl (fun a x => a * 256 + x.toNat) f) p := by
    intro m
    induction m with
    | nil => intro f; rfl
    | cons x m ih =>
      intro f
      have hx := x.toNat_lt
      have e : addN p (md f p) x.toNat = md (f * 256 + x.toNat) p := md_256 f x.toNat p (by omega)
      rw [List.foldl_cons, List.foldl_cons, e, ih]
  have := key l 0
  rw [md_zero] at this
  exact this
/-- The last sixteen, noughts ahead. -/
def wnd (L : List UInt8) : List UInt8 := (zs16 ++ L).drop L.length
theorem zs16_length : zs16.length = 16 := rfl
theorem wnd_length (L : List UInt8) : (wnd L).length = 16 := by rw [wnd, List.length_drop, List.length_append, zs16_length]; omega
theorem wnd_nil : wnd [] = zs16 := rfl
theorem wnd_step (L : List UInt8) (x : UInt8) : ∃ old rest, wnd L = old :: rest ∧ rest.length = 15 ∧ wnd (L ++ [x]) = rest ++ [x] := by
  have hl := wnd_length L
  match h : wnd L, hl with
  | old :: rest, hl =>
    refine ⟨old, rest, rfl, by simpa using hl, ?_⟩
    unfold wnd at h ⊢
    rw [← List.append_assoc, List.length_append, List.drop_append_of_le_length (by rw [List.length_append, zs16_length, List.length_singleton]; omega)]
    congr 1
    rw [← List.drop_drop, h]
    rfl
theorem wnd_after (A B : List UInt8) (h : 16 ≤ B.length) : wnd (A ++ B) = wnd B := by
  have h1 : wnd (A ++ B) = B.drop (B.length - 16) := by
    unfold wnd
    rw [← List.append_assoc, List.length_append, List.drop_append (l₁ := zs16 ++ A), List.drop_eq_nil_of_le (by rw [List.length_append, zs16_length]; omega), List.nil_append, List.length_append, zs16_length]
    congr 1
    omega
  have h2 : wnd B = B.drop (B.length - 16) := by
    unfold wnd
    rw [List.drop_append, List.drop_eq_nil_of_le (by rw [zs16_length]; omega), List.nil_append, zs16_length]
  rw [h1, h2]
/-- What rolls on has the fingerprint of the last sixteen. -/
theorem rollN_wnd (p : Nat) (old x : UInt8) (rest : List UInt8) (hr : rest.length = 15) : rollN p (prN p (old :: rest)) old.toNat x.toNat = prN p (rest ++ [x]) := by
  have hx := x.toNat_lt
  have hlt := beN_lt rest
  rw [hr] at hlt
  rw [prN_be, prN_be, beN_append, rollN, addN, outN, beN_cons, hr]
  have e : old.toNat * 256 ^ 15 + beN rest = old.toNat * 2 ^ 120 ^^^ beN rest := (xor_add (k := 120) (by simpa using hlt)).symm
  rw [e, md_xor, Nat.xor_comm (md (old.toNat * 2 ^ 120) p), Nat.xor_assoc, Nat.xor_self, Nat.xor_zero]
  exact md_256 _ _ p (by omega)

/-! ### the roller -/
/-- A roller that has rolled over L. -/
def RollOf (w : World) (r g p : Nat) (L : List UInt8) : Prop :=
  ∃ last, RollIs w r g last (L.length % 16) (prN p (wnd L)) ∧ ∀ i, i < 16 → last.getD ((L.length + i) % 16) 0 = (wnd L).getD i 0
theorem zs16_get (i : Nat) : zs16.getD i 0 = 0 := by
  unfold zs16
  rw [List.getD_eq_getElem?_getD, List.getElem?_replicate]
  split <;> rfl
theorem RollOf.start {w : World} {r g p : Nat} (h : RollIs w r g zs16 0 0) (hz : prN p zs16 = 0) : RollOf w r g p [] :=
  ⟨zs16, by rw [wnd_nil, hz]; exact h, fun i _ => by rw [wnd_nil, zs16_get, zs16_get]⟩
theorem pr_zs16 (p : Nat) : prN p zs16 = 0 := by
  rw [prN_be]
  rfl
theorem RollIs.same {w w' : World} {r g : Nat} {last : List UInt8} {a f : Nat} (h : RollIs w r g last a f) (e : w'.heap[r]? = w.heap[r]?) : RollIs w' r g last a f := ⟨BK.same h.1 e, h.2⟩
theorem RollOf.same {w w' : World} {r g p : Nat} {L : List UInt8} (h : RollOf w r g p L) (e : w'.heap[r]? = w.heap[r]?) : RollOf w' r g p L := by
  obtain ⟨last, h1, h2⟩ := h
  exact ⟨last, h1.same e, h2⟩
theorem RollOf.lt {w : World} {r g p : Nat} {L : List UInt8} (h : RollOf w r g p L) : r < w.heap.size := by
  obtain ⟨last, h1, h2⟩ := h
  exact BK.lt h1.1
theorem RollOf.other {w w' : World} {r g p r' : Nat} {L : List UInt8} (h : RollOf w r g p L) (e : w.grownBy w' (some r')) (hne : r ≠ r') : RollOf w' r g p L :=
  h.same (e.block r h.lt (fun k => hne (Option.some.inj k)))
theorem RollOf.ext {w w' : World} {r g p : Nat} {L : List UInt8} (h : RollOf w r g p L) (e : Below w.heap.size w w') : RollOf w' r g p L := h.same (e.block r h.lt)
theorem nextL_calls (r g p : Nat) (hp : bl p = 32) (L : List UInt8) (x : UInt8) (w : World) (hR : RollOf w r g p L) (hT : TabFull w g p) (hne : g ≠ r) :
    Calls Try.prog 31 #[.pointer (some ⟨r, 0, none⟩), .int .u8 (x.toNat : Int)] w fun e w' => e = .returned (.int .u64 (prN p (wnd (L ++ [x])) : Nat)) ∧
      RollOf w' r g p (L ++ [x]) ∧ TabFull w' g p ∧ w.grownBy w' (some r) := by
  obtain ⟨last, h1, h2⟩ := hR
  obtain ⟨old, rest, e1, e2, e3⟩ := wnd_step L x
  have hold : gb last (L.length % 16) = old.toNat := by
    have := h2 0 (by decide)
    rw [Nat.add_zero, e1] at this
    unfold gb
    rw [this]
    rfl
  have hl : last.length = 16 := h1.2.1
  have hv : rollN p (prN p (wnd L)) (gb last (L.length % 16)) x.toNat = prN p (wnd (L ++ [x])) := by rw [hold, e1, e3]; exact rollN_wnd p old x rest e2
  refine (next_calls r g p hp last (L.length % 16) (prN p (wnd L)) x w h1 hT hne).mono ?_
  rintro e w' ⟨rfl, hr, ht, hg⟩
  rw [hv] at hr ⊢
  refine ⟨rfl, ⟨last.set (L.length % 16) x, ?_, ?_⟩, ht, hg⟩
  · rw [List.length_append, List.length_singleton, show (L.length + 1) % 16 = (L.length % 16 + 1) % 16 by omega]
    exact hr
  · intro i hi
    rw [List.length_append, List.length_singleton, e3, List.getD_eq_getElem?_getD, List.getD_eq_getElem?_getD]
    by_cases h15 : i = 15
    · subst h15
      rw [show (L.length + 1 + 15) % 16 = L.length % 16 by omega, List.getElem?_set_self (by omega), List.getElem?_append_right (by omega), e2]
      rfl
    · rw [List.getElem?_set_ne (by omega), List.getElem?_append_left (by omega), show L.length + 1 + i = L.length + (i + 1) by omega]
      have := h2 (i + 1) (by omega)
      rw [e1, List.getD_eq_getElem?_getD, List.getD_eq_getElem?_getD, List.getElem?_cons_succ] at this
      exact this
/-- Two rollers over one table. -/
def Two (w : World) (r1 r2 g p : Nat) (L1 L2 : List UInt8) : Prop := RollOf w r1 g p L1 ∧ RollOf w r2 g p L2 ∧ TabFull w g p ∧ r1 ≠ r2 ∧ g ≠ r1 ∧ g ≠ r2
theorem two_next1 (r1 r2 g p : Nat) (hp : bl p = 32) (L1 L2 : List UInt8) (x : UInt8) (w : World) (h : Two w r1 r2 g p L1 L2) :
    Calls Try.prog 31 #[.pointer (some ⟨r1, 0, none⟩), .int .u8 (x.toNat : Int)] w fun e w' => e = .returned (.int .u64 (prN p (wnd (L1 ++ [x])) : Nat)) ∧
      Two w' r1 r2 g p (L1 ++ [x]) L2 ∧ w.grownBy w' (some r1) := by
  obtain ⟨h1, h2, h3, n1, n2, n3⟩ := h
  refine (nextL_calls r1 g p hp L1 x w h1 h3 n2).mono ?_
  rintro e w' ⟨rfl, hr, ht, hg⟩
  exact ⟨rfl, ⟨hr, h2.other hg (fun k => n1 k.symm), ht, n1, n2, n3⟩, hg⟩
theorem two_next2 (r1 r2 g p : Nat) (hp : bl p = 32) (L1 L2 : List UInt8) (x : UInt8) (w : World) (h : Two w r1 r2 g p L1 L2) :
    Calls Try.prog 31 #[.pointer (some ⟨r2, 0, none⟩), .int .u8 (x.toNat : Int)] w fun e w' => e = .returned (.int .u64 (prN p (wnd (L2 ++ [x])) : Nat)) ∧
      Two w' r1 r2 g p L1 (L2 ++ [x]) ∧ w.grownBy w' (some r2) := by
  obtain ⟨h1, h2, h3, n1, n2, n3⟩ := h
  refine (nextL_calls r2 g p hp L2 x w h2 h3 n3).mono ?_
  rintro e w' ⟨rfl, hr, ht, hg⟩
  exact ⟨rfl, ⟨h1.other hg n1, hr, ht, n1, n2, n3⟩, hg⟩
theorem gb_some (l : List UInt8) (k : Nat) (h : k < l.length) : ∃ x : UInt8, l.getD k 0 = x ∧ gb l k = x.toNat ∧ l.take (k + 1) = l.take k ++ [x] := by
  refine ⟨l[k], by rw [List.getD_eq_getElem?_getD, List.getElem?_eq_getElem h]; rfl, ?_, List.take_succ_eq_append_getElem h⟩
  unfold gb
  rw [List.getD_eq_getElem?_getD, List.getElem?_eq_getElem h]; rfl
end Go.Proofs.Ytmohjgcnhibkoaa
