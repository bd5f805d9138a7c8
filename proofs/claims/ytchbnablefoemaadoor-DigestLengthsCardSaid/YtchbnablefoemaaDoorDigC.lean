/- digest: one round, the contract of stir. -/
import Derived.Test.YtchbnablefoemaaDoorDigB
import Derived.Deep.MidRow
namespace Go.Proofs.YtchbnablefoemaaDoor
open Go.RowKit
set_option linter.unusedVariables false

def firstL : List Nat := [1779033703, 3144134277, 1013904242, 2773480762, 1359893119, 2600822924, 528734635, 1541459225]
def roundsL : List Nat := [1116352408, 1899447441, 3049323471, 3921009573, 961987163, 1508970993, 2453635748, 2870763221, 3624381080, 310598401, 607225278, 1426881987, 1925078388, 2162078206, 2614888103, 3248222580, 3835390401, 4022224774, 264347078, 604807628, 770255983, 1249150122, 1555081692, 1996064986, 2554220882, 2821834349, 2952996808, 3210313671, 3336571891, 3584528711, 113926993, 338241895, 666307205, 773529912, 1294757372, 1396182291, 1695183700, 1986661051, 2177026350, 2456956037, 2730485921, 2820302411, 3259730800, 3345764771, 3516065817, 3600352804, 4094571909, 275423344, 430227734, 506948616, 659060556, 883997877, 958139571, 1322822218, 1537002063, 1747873779, 1955562222, 2024104815, 2227730452, 2361852424, 2428436474, 2756734187, 3204031479, 3329325298]
/-- The tables as they are laid. -/
def Tabs (w : World) : Prop := (∀ j, j < 8 → w.cell? ⟨0, j, none⟩ = some (.int .u32 (gw firstL j : Int))) ∧ ∀ j, j < 64 → w.cell? ⟨1, j, none⟩ = some (.int .u32 (gw roundsL j : Int))
theorem Tabs.ext {w w' : World} (h : Tabs w) (e : Below w.heap.size w w') : Tabs w' :=
  ⟨fun j hj => (e.cell (p := ⟨_, j, none⟩) (World.block_lt_of_cell? w _ (h.1 j hj))).trans (h.1 j hj), fun j hj => (e.cell (p := ⟨_, j, none⟩) (World.block_lt_of_cell? w _ (h.2 j hj))).trans (h.2 j hj)⟩
theorem rounds_words : Words roundsL := fun i => by
  have h : ∀ x ∈ roundsL, x < 4294967296 := by decide
  unfold gw
  by_cases hi : i < roundsL.length
  · rw [List.getD_eq_getElem?_getD, List.getElem?_eq_getElem hi]; exact h _ (List.getElem_mem hi)
  · rw [List.getD_eq_getElem?_getD, List.getElem?_eq_none (by omega)]; exact (by decide : (0 : Nat) < 4294967296)
def bsg1 (e : Nat) : Nat := rotr e 6 ^^^ rotr e 11 ^^^ rotr e 25
def bsg0 (a : Nat) : Nat := rotr a 2 ^^^ rotr a 13 ^^^ rotr a 22
def chN (e f g : Nat) : Nat := (e &&& f) ^^^ ((4294967295 - e) &&& g)
def majN (a b c : Nat) : Nat := (a &&& b) ^^^ (a &&& c) ^^^ (b &&& c)
def rndT (x : List Nat) (k w : Nat) : Nat := (gw x 7 + bsg1 (gw x 4) + chN (gw x 4) (gw x 5) (gw x 6) + k + w) % 4294967296
def rndU (x : List Nat) : Nat := (bsg0 (gw x 0) + majN (gw x 0) (gw x 1) (gw x 2)) % 4294967296
def rnd (x : List Nat) (k w : Nat) : List Nat := [(rndT x k w + rndU x) % 4294967296, gw x 0, gw x 1, gw x 2, (gw x 3 + rndT x k w) % 4294967296, gw x 4, gw x 5, gw x 6]
def rnds (x W : List Nat) : Nat → List Nat
  | 0 => x
  | k + 1 => rnd (rnds x W k) (gw roundsL k) (gw W k)
theorem words8 {M : Nat} (hM : 0 < M) {a b c d e f g h : Nat} (ha : a < M) (hb : b < M) (hc : c < M) (hd : d < M) (he : e < M) (hf : f < M) (hg : g < M) (hh : h < M) : ∀ i, gw [a, b, c, d, e, f, g, h] i < M
  | 0 => ha
  | 1 => hb
  | 2 => hc
  | 3 => hd
  | 4 => he
  | 5 => hf
  | 6 => hg
  | 7 => hh
  | _ + 8 => hM
theorem rnd_words {x : List Nat} (h : Words x) (k w : Nat) : Words (rnd x k w) :=
  words8 (by decide) (Nat.mod_lt _ (by decide)) (h 0) (h 1) (h 2) (Nat.mod_lt _ (by decide)) (h 4) (h 5) (h 6)
theorem rnds_words {x W : List Nat} (h : Words x) (k : Nat) : Words (rnds x W k) := by induction k with
  | zero => exact h
  | succ k ih => exact rnd_words ih _ _
theorem rnds_length {x W : List Nat} (h : x.length = 8) (k : Nat) : (rnds x W k).length = 8 := by cases k with
  | zero => exact h
  | succ k => rfl
/-- The state behind one block. -/
def stirTo (x y : List Nat) : Nat → List Nat
  | 0 => []
  | k + 1 => stirTo x y k ++ [(gw x k + gw y k) % 4294967296]
def stirL (x : List Nat) (l : List UInt8) : List Nat := stirTo x (rnds x (spreadL l) 64) 8
theorem stirTo_length (x y : List Nat) (k : Nat) : (stirTo x y k).length = k := by induction k with
  | zero => rfl
  | succ k ih => simp [stirTo, ih]
theorem setCells_drew (b : Nat) : ∀ (vs : List Value) (o : Nat) (w : World), (w.setCells b o vs).drew = w.drew.setCells b o vs
  | [], _, _ => rfl
  | v :: r, o, w => by
    rw [World.setCells, World.setCells]
    exact setCells_drew b r (o + 1) (w.setCell ⟨b, o, none⟩ v)
theorem setCells_snoc (b : Nat) : ∀ (vs : List Value) (v : Value) (o : Nat) (w : World), w.setCells b o (vs ++ [v]) = (w.setCells b o vs).setCell ⟨b, o + vs.length, none⟩ v
  | [], v, o, w => rfl
  | u :: r, v, o, w => by
    rw [List.cons_append, World.setCells, World.setCells, setCells_snoc b r v (o + 1)]
    congr 2
    simp; omega
end Go.Proofs.YtchbnablefoemaaDoor
