/- packet: Put: the walk. -/
import Derived.Test.YtjhnnnklfhbebaaPkC
import Derived.Test.YtjhnnnklfhbebaaConcat
import Derived.Test.YtjhnnnklfhbebaaSumsA
import Derived.Test.YtjhnnnklfhbebaaAnyZ
import Derived.Laws.CopyOwn
import Derived.Laws.CopyRow
import Derived.Deep.RegionLaw
namespace Go.Proofs.Ytjhnnnklfhbebaa
open Go.RowKit
set_option linter.unusedVariables false
set_option linter.unusedSimpArgs false

theorem catTo_flat (ls : List (List UInt8)) : ∀ k, k ≤ ls.length → catTo ls k = (ls.take k).flatten := by
  intro k
  induction k with
  | zero => intro _; rfl
  | succ k ih =>
    intro hk
    have hk' : k < ls.length := hk
    rw [catTo, ih (by omega), List.take_succ_eq_append_getElem hk', List.flatten_append, List.getD_eq_getElem?_getD, List.getElem?_eq_getElem hk']
    simp
-- left out: slices.Concat[[]byte,byte]
theorem RB.lit (w : World) (e : TypeId) (l : List UInt8) (hm : l.length ≤ 1000000) : RB (w.alloc (.cells (l.map vb).toArray e)) (some ⟨w.heap.size, 0, none⟩) l := by
  obtain ⟨A, c, hv, hr, _⟩ := (OwnB.lit w.heap.size e w l (Nat.le_refl _) (by simp only [maxLen]; omega)).form
  injection hv with ea
  rw [ea]
  exact hr
theorem RB.lit4 (w : World) (e : TypeId) (s d fl : Nat) (hs : s < 256) (hd : d < 256) (hf : fl < 256) :
    RB (w.alloc (.cells #[.int .u8 70, .int .u8 (s : Int), .int .u8 (d : Int), .int .u8 (fl : Int)] e)) (some ⟨w.heap.size, 0, none⟩) [70, UInt8.ofNat s, UInt8.ofNat d, UInt8.ofNat fl] := by
  have h := RB.lit w e [70, UInt8.ofNat s, UInt8.ofNat d, UInt8.ofNat fl] (by simp)
  have e1 : ([70, UInt8.ofNat s, UInt8.ofNat d, UInt8.ofNat fl].map vb).toArray = #[.int .u8 70, .int .u8 (s : Int), .int .u8 (d : Int), .int .u8 (fl : Int)] := by
    simp only [List.map_cons, List.map_nil, vb_ofNat, Nat.mod_eq_of_lt hs, Nat.mod_eq_of_lt hd, Nat.mod_eq_of_lt hf]
    rfl
  rwa [e1] at h

/-- Slices as values, with what they read. -/
def RBs (w : World) : List Value → List (List UInt8) → Prop
  | [], [] => True
  | v :: vs, l :: ls => (∃ A c, v = .slice A l.length c ∧ RB w A l ∧ l.length ≤ c) ∧ RBs w vs ls
  | _, _ => False
theorem RBs.nil (w : World) : RBs w [] [] := trivial
theorem RBs.cons {w : World} {A : Option Addr} {n c : Nat} {l : List UInt8} {vs : List Value} {ls : List (List UInt8)} (hn : l.length = n) (h : RB w A l) (hc : n ≤ c) (k : RBs w vs ls) : RBs w (.slice A n c :: vs) (l :: ls) := by
  subst hn
  exact ⟨⟨A, c, rfl, h, hc⟩, k⟩
theorem RBs.get {w : World} : ∀ {vs : List Value} {ls : List (List UInt8)}, RBs w vs ls → ∀ i, i < ls.length → ∃ A c, vs[i]? = some (.slice A (ls.getD i []).length c) ∧ RB w A (ls.getD i []) ∧ (ls.getD i []).length ≤ c
  | [], [], _, i, h => by simp at h
  | [], _ :: _, h, _, _ => h.elim
  | _ :: _, [], h, _, _ => h.elim
  | v :: vs, l :: ls, h, 0, _ => by
    obtain ⟨⟨A, c, rfl, a, b⟩, _⟩ := h
    exact ⟨A, c, rfl, a, b⟩
  | v :: vs, l :: ls, h, i + 1, hi => by
    have := RBs.get h.2 i (by simpa using hi)
    simpa using this
theorem RBs.rbb (w : World) (e : TypeId) {vs : List Value} {ls : List (List UInt8)} (h : RBs w vs ls) : RBB (w.alloc (.cells vs.toArray e)) (some ⟨w.heap.size, 0, none⟩) ls := fun i hi => by
  obtain ⟨A, c, hv, hr, hc⟩ := h.get i hi
  exact ⟨w.heap.size, 0, A, c, rfl, by rw [Nat.zero_add]; exact (BK.new w e vs).cell hv, hr.ext (ext_alloc w _), hc⟩

theorem copy_src {w : World} {A : Option Addr} {l : List UInt8} (h : RB w A l) (h0 : 0 < l.length) : ∃ ad, A = some ad ∧ ∀ j v, (l.map vb)[j]? = some v → w.cell? (ad.add j) = some v := by
  obtain ⟨b, o, e, _⟩ := h 0 h0
  refine ⟨⟨b, o, none⟩, e, fun j v hv => ?_⟩
  obtain ⟨b2, o2, e2, hc⟩ := RV.of_RB h j v hv
  rw [e] at e2
  cases e2
  have : (⟨b, o, none⟩ : Addr).add j = ⟨b, o + j, none⟩ := by unfold Addr.add; split <;> simp_all
  rw [this]
  exact hc

theorem splice_app {α : Type} (a b : List α) (k : Nat) (cs : List α) (h : k + cs.length ≤ a.length) : splice (a ++ b) k cs = splice a k cs ++ b := by
  unfold splice
  rw [List.take_append_of_le_length (by omega), List.drop_append_of_le_length (by omega)]
  simp
theorem take_splice {α : Type} (l : List α) (k : Nat) (cs : List α) (L : Nat) (h : k + cs.length ≤ L) (h2 : L ≤ l.length) : (splice l k cs).take L = splice (l.take L) k cs := by
  have := splice_app (l.take L) (l.drop L) k cs (by rw [List.length_take]; omega)
  rw [List.take_append_drop] at this
  rw [this, List.take_left' (by rw [length_splice _ _ _ (by rw [List.length_take]; omega), List.length_take]; omega)]
theorem splice_mid (f z t c : List UInt8) {k : Nat} (hf : f.length = k) (hz : z.length = c.length) : splice ((f ++ z ++ t).map vb) k (c.map vb) = (f ++ c ++ t).map vb := by
  subst hf
  unfold splice
  rw [List.length_map, ← hz, ← List.map_take, ← List.map_drop, ← List.map_append, ← List.map_append]
  congr 1
  rw [List.append_assoc f z t, List.take_left, ← List.drop_drop, List.drop_left, List.drop_left, List.append_assoc]

/-! ### plain -/
def frontL (s d sp dp seq ack fl wn : Nat) : List UInt8 := [70, UInt8.ofNat s, UInt8.ofNat d, UInt8.ofNat fl] ++ be sp 2 ++ be dp 2 ++ be seq 4 ++ be ack 4 ++ be wn 2
def tailL (pr og : Nat) (data : List UInt8) : List UInt8 := [UInt8.ofNat (optL pr og).length, 0] ++ optL pr og ++ data
def blankL (s d sp dp seq ack fl wn pr og : Nat) (data : List UInt8) : List UInt8 := frontL s d sp dp seq ack fl wn ++ be 0 2 ++ tailL pr og data
def putL (s d sp dp seq ack fl wn pr og : Nat) (data : List UInt8) : List UInt8 :=
  frontL s d sp dp seq ack fl wn ++ be (inetN [blankL s d sp dp seq ack fl wn pr og data]) 2 ++ tailL pr og data
theorem parts_flat (s d sp dp seq ack fl wn pr og : Nat) (data : List UInt8) : [[70, UInt8.ofNat s, UInt8.ofNat d, UInt8.ofNat fl], be sp 2, be dp 2, be seq 4, be ack 4, be wn 2, be 0 2, [UInt8.ofNat (optL pr og).length, 0], optL pr og, data].flatten = blankL s d sp dp seq ack fl wn pr og data := by
  simp [blankL, frontL, tailL, List.append_assoc]
theorem optL_length (pr og : Nat) : (optL pr og).length = (if 0 < pr then 10 else 0) + (if 0 < og then 4 else 0) := by unfold optL; rw [List.length_append, prL_length, ogL_length]
theorem optL_le (pr og : Nat) : (optL pr og).length ≤ 14 := by rw [optL_length]; split <;> split <;> omega
theorem frontL_length (s d sp dp seq ack fl wn : Nat) : (frontL s d sp dp seq ack fl wn).length = 18 := by simp [frontL, be_length]
theorem tailL_length (pr og : Nat) (data : List UInt8) : (tailL pr og data).length = 2 + (optL pr og).length + data.length := by simp [tailL]; omega
theorem blankL_length (s d sp dp seq ack fl wn pr og : Nat) (data : List UInt8) : (blankL s d sp dp seq ack fl wn pr og data).length = 22 + (optL pr og).length + data.length := by
  unfold blankL; rw [List.length_append, List.length_append, frontL_length, tailL_length, be_length]; omega
theorem putL_length (s d sp dp seq ack fl wn pr og : Nat) (data : List UInt8) : (putL s d sp dp seq ack fl wn pr og data).length = 22 + (optL pr og).length + data.length := by
  unfold putL; rw [List.length_append, List.length_append, frontL_length, tailL_length, be_length]; omega

-- left out: flume/packet.Put
-- left out: flume/packet.Put
def putP (p : Pk) : List UInt8 := putL p.src.toNat p.dst.toNat p.sp.toNat p.dp.toNat p.seq p.ack p.fl.toNat p.wn.toNat p.pr.toNat p.og.toNat p.data
-- left out: flume/packet.Put
end Go.Proofs.Ytjhnnnklfhbebaa
