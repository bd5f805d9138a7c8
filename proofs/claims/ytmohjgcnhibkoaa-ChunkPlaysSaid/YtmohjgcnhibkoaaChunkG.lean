/- slices.Clone of a list of slices; a list of slices whose bytes are written. -/
import Derived.Test.YtmohjgcnhibkoaaChunkF
namespace Go.Proofs.Ytmohjgcnhibkoaa
open Go.RowKit
set_option linter.unusedVariables false

theorem slice_one {vs : List Value} {P : Nat → Option Addr → Nat → Nat → Prop} (h : ∀ i u, vs[i]? = some u → ∃ A n c, u = .slice A n c ∧ P i A n c) : ∀ u ∈ vs, u.oneCell' = true := fun u hu => by
  obtain ⟨y, hy, hu2⟩ := List.getElem_of_mem hu
  obtain ⟨A, n, c, e, _⟩ := h y u (by rw [List.getElem?_eq_getElem hy, hu2])
  rw [e]
  rfl
set_option maxRecDepth 100000 in
set_option maxHeartbeats 1000000 in
theorem clone2_calls (D : Nat) (A : Option Addr) (c n : Nat) (ls : List (List UInt8)) (hn : ls.length = n) (w : World) (hD : D ≤ w.heap.size) (h : OutR D w (.slice A n c) ls) (hl : n ≤ 100000) :
    Calls Try.prog 21 #[.slice A n c] w fun e w' => ∃ v, e = .returned v ∧ OutR D w' v ls ∧ Below w.heap.size w w' := by
  have ke := fun (W : World) (n : Nat) => Lib.run_eql_slice_nil (P := Try.prog) W 28 23 A n c 0 0 Try.underlying28
  have HH := Lib.hid h
  obtain ⟨vs, a, b, c0⟩ := h
  rw [hn] at a
  have HN := Lib.hid hn
  cases A with
  | none =>
    have h0 : ls = [] := by
      rcases a.2 with ⟨e1, e2⟩ | ⟨g, cap, cur, e1, _⟩
      · exact List.eq_nil_of_length_eq_zero (by omega)
      · injection e1 with ea
        cases ea
    clear a b c0
    go_enter Try.func21, Try.ntmps21
    go_wp2
    go_ret
    subst h0
    exact ⟨_, rfl, OutR.nil _ _, Below.refl _ _⟩
  | some ad =>
    have hrv := row_reads a
    have hone : ∀ u ∈ vs, u.oneCell' = true := slice_one (P := fun _ _ _ _ => True) fun i u hu => by
      obtain ⟨A', c', e, _⟩ := c0 i u hu
      exact ⟨A', _, c', e, trivial⟩
    have hlen : vs.length = n := by rw [b, hn]
    have HRV : Hid (RV (w.alloc (.cells #[] 23)) (some ad) vs) := Lib.hid (hrv.ext (ext_alloc w _))
    have HONE := Lib.hid hone
    have HLEN := Lib.hid hlen
    have HC0 := Lib.hid c0
    have HBV := Lib.hid b
    have hlit := World.ownsRow_lit (base := w.heap.size) (e := 23) (size := 1) w #[] 0 (Nat.le_refl _) (by simp) rfl
    have HLIT := Lib.hid hlit
    clear a b c0 hrv hone hlen hlit hn
    go_enter Try.func21, Try.ntmps21
    go_wp2_with (at_builtin; refine wpList_app rfl _ _ 28 rfl w.heap.size 23 (.slice none 0 0) 24 Try.underlying28 infoS rfl (by decide) _ 0 [] rfl HLIT.out _ _ _ vs rfl HLEN.out HRV.out HONE.out (by omega) (by simp) ?_)
    intro v7 w7 a7 hg7 _
    have hb7 : Below w.heap.size w w7 := (ext_alloc w (.cells #[] 23)).grown hg7 (by simp) (fun x hx => by cases hx; exact Nat.le_refl _)
    have hO : OutR D w7 v7 ls := by
      refine ⟨vs, ?_, HBV.out, fun i u hu => ?_⟩
      · rw [HN.out]
        exact ⟨a7.1, a7.2.imp id fun ⟨g, cap, cur, x, y, z⟩ => ⟨g, cap, cur, x, Nat.le_trans hD y, z⟩⟩
      · obtain ⟨A', c', e, hr, hc, hb⟩ := HC0.out i u hu
        exact ⟨A', c', e, hr.ext hb7, hc, hb⟩
    have HO := Lib.hid hO
    have HB7 := Lib.hid hb7
    clear a7 hg7 hb7 hO
    go_wp2
    go_ret
    exact ⟨_, rfl, HO.out, HB7.out⟩

/-- A list of slices, each in memory of its own, of known lengths; whatever the bytes. -/
def Items (D : Nat) (w : World) (vo : Value) (ns : List Nat) : Prop :=
  ∃ vs : List Value, w.ownsRow D 23 1 vo ns.length vs ∧ vs.length = ns.length ∧ ∀ i u, vs[i]? = some u → ∃ l, OwnB D 5 w u l ∧ l.length = ns.getD i 0
theorem OutIs.items {D : Nat} {w : World} {vo v : Value} {ls : List (List UInt8)} (h : OutIs D w vo v ls) : Items D w vo (ls.map List.length) := by
  obtain ⟨vs, a, b, c⟩ := h
  refine ⟨vs, by rw [List.length_map]; exact a, by rw [List.length_map]; exact b, fun i u hu => ⟨ls.getD i [], (c i u hu).1, ?_⟩⟩
  have hi : i < ls.length := by rw [← b]; exact (List.getElem?_eq_some_iff.1 hu).1
  rw [List.getD_eq_getElem?_getD, List.getD_eq_getElem?_getD, List.getElem?_map, List.getElem?_eq_getElem hi]
  rfl
theorem Items.ext {D : Nat} {w w' : World} {vo : Value} {ns : List Nat} (h : Items D w vo ns) (e : Below w.heap.size w w') : Items D w' vo ns := by
  obtain ⟨vs, a, b, c⟩ := h
  refine ⟨vs, a.kept (grown_of_below e none) (by cases vo.ownBlock <;> simp), b, fun i u hu => ?_⟩
  obtain ⟨l, ho, hl⟩ := c i u hu
  exact ⟨l, ho.ext e, hl⟩
/-- A byte of one of them is written. -/
theorem Items.set {D : Nat} {w : World} {vo : Value} {ns : List Nat} (h : Items D w vo ns) {x n c : Nat} {l : List UInt8} (hi : OwnB D 5 w (.slice (some ⟨x, 0, none⟩) n c) l) (j : Nat) (y : UInt8) : Items D (w.setCell ⟨x, j, none⟩ (.int .u8 (y.toNat : Int))) vo ns := by
  obtain ⟨vs, a, b, c0⟩ := h
  have hg := grown_setCell w x j (.int .u8 (y.toNat : Int))
  have hne := own_ne_own a hi (by decide)
  refine ⟨vs, a.kept hg hne, b, fun i u hu => ?_⟩
  obtain ⟨m, ho, hm⟩ := c0 i u hu
  by_cases e : u.ownBlock = some x
  · rcases ho.2 with ⟨rfl, _⟩ | ⟨g, cap, cur, rfl, _⟩
    · cases e
    · have : g = x := Option.some.inj e
      subst this
      exact ⟨m.set j y, ho.set j y, by rw [List.length_set, hm]⟩
  · exact ⟨m, ho.other hg (.inr e), hm⟩
theorem flip (a : Nat) (h : a ≤ 255) : ∃ y : UInt8, bits .xor .u8 (a : Int) 255 = (y.toNat : Int) := by
  have h1 : a ^^^ 255 < 256 := Nat.xor_lt_two_pow (n := 8) (by omega) (by decide)
  refine ⟨UInt8.ofNat (a ^^^ 255), ?_⟩
  rw [show (255 : Int) = ((255 : Nat) : Int) from rfl, xor_u8 _ _ (by omega) (by decide)]
  rw [UInt8.toNat_ofNat', Nat.mod_eq_of_lt h1]
end Go.Proofs.Ytmohjgcnhibkoaa
