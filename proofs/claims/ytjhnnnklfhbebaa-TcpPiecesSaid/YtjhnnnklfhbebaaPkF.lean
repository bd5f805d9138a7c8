/- packet: Get: the walk. -/
import Derived.Test.YtjhnnnklfhbebaaPkE
import Derived.Laws.ResultCell
namespace Go.Proofs.Ytjhnnnklfhbebaa
open Go.RowKit
set_option linter.unusedVariables false
set_option linter.unusedSimpArgs false

theorem results_ct {P : Program} {fn : Func} {p u : Tmp} {ty : TypeId} (h : fn.results = #[.cell p ty, .tmp u]) (tmps : Array Value) (w : World) (g : Nat) (t : TypeId) (cs : Array Value) (fr : Nat × Nat) (d : TypeDesc)
    (hp : tmps.getD p undef = .pointer (some ⟨g, 0, none⟩)) (hg : w.heap[g]? = some (.cells cs t fr))
    (hu : P.underlying ty = some d) (hd : (match d with | .struct _ | .array _ _ => true | _ => false) = true) (hi : (P.info? ty).map (·.size) = some cs.size) :
    (results fn tmps).run P w = .ok (.tuple #[.agg cs, tmps.getD u undef]) w := by
  rw [results_cell_tmp h tmps P w, hp]
  simp [asAddr, run_loadVar_row w g t ty cs fr d hg hu hd hi, Result.andThen]
theorem infoP (cs : List Value) (h : cs.length = 11) : (Try.prog.info? 32).map (·.size) = some cs.toArray.size := by
  rw [show cs.toArray.size = 11 by simp [h]]
  kernel_rfl
/-- The cells of a packet of noughts. -/
def zeroCs : List Value := [.int .i64 0, .int .i64 0, .int .i64 0, .int .i64 0, .int .u32 0, .int .u32 0, .int .i64 0, .int .i64 0, .int .i64 0, .int .i64 0, .slice none 0 0]
theorem zeroCs_cs : Pk.zero.cs none 0 0 = zeroCs := rfl
theorem one_zero : zeroCs.toArray.all (·.oneCell') = true := by simp [zeroCs, Value.oneCell']
theorem zero_new (w : World) : (w.alloc (.cells zeroCs.toArray 32)).heap[w.heap.size]? = some (.cells zeroCs.toArray 32 (0, 0)) := heap_new w _ rfl

-- left out: flume/packet.Get
-- left out: flume/sums.Valid
-- left out: flume/packet.Get
/-! ### the packet that the bytes say -/
def baseCs (l : List UInt8) : List Value :=
  [.int .i64 (gb l 1 : Int), .int .i64 (gb l 2 : Int), .int .i64 (nb2 l 4 : Int), .int .i64 (nb2 l 6 : Int), .int .u32 (nb4 l 8 : Int), .int .u32 (nb4 l 12 : Int), .int .i64 (gb l 3 : Int), .int .i64 (nb2 l 16 : Int), .int .i64 0, .int .i64 0, .slice none 0 0]
theorem one_base (l : List UInt8) : (baseCs l).toArray.all (·.oneCell') = true := by simp [baseCs, Value.oneCell']
/-- What region 6 goes through: the packet is made, then filled. -/
def GInv (w : World) (l : List UInt8) (bb : Nat → Bool) (W : World) : Prop :=
  Below w.heap.size w W ∧ (bif bb 29 then BK W w.heap.size 32 (baseCs l) else bif bb 28 then BK W w.heap.size 32 zeroCs else W.heap.size = w.heap.size)
section
variable {w W W' : World} {l : List UInt8} {bb : Nat → Bool}
theorem GInv.start (w : World) (l : List UInt8) : GInv w l (fun _ => false) w.drew := ⟨(Below.refl _ _).drew, rfl⟩
theorem GInv.zero (h : GInv w l bb W) (n29 : bb 29 = false) (n28 : bb 28 = false) : W.heap.size = w.heap.size := by
  have := h.2; rw [n29, n28] at this; exact this
theorem GInv.made (h : GInv w l bb W) (n29 : bb 29 = false) (n28 : bb 28 = false) : GInv w l (upd bb 28) (W.alloc (.cells zeroCs.toArray 32)) := by
  have hz := h.zero n29 n28
  refine ⟨h.1.alloc (by omega) _, ?_⟩
  rw [upd_ne (by decide), n29, upd_self]
  have := BK.new W 32 zeroCs
  rw [hz] at this
  exact this
theorem GInv.mid (h : GInv w l bb W) (n29 : bb 29 = false) (p28 : bb 28 = true) : BK W w.heap.size 32 zeroCs := by
  have := h.2; rw [n29, p28] at this; exact this
theorem GInv.fill (h : GInv w l bb W) (hk : BK W' w.heap.size 32 (baseCs l)) (hg : W.grownBy W' (some w.heap.size)) : GInv w l (upd bb 29) W' :=
  ⟨below_grown h.1 hg h.1.size (Nat.le_refl _), by rw [upd_self]; exact hk⟩
theorem GInv.done (h : GInv w l bb W) (p29 : bb 29 = true) : BK W w.heap.size 32 (baseCs l) := by
  have := h.2; rw [p29] at this; exact this
theorem GInv.step (h : GInv w l bb W) {i : Nat} (h1 : i ≠ 28) (h2 : i ≠ 29) : GInv w l (upd bb i) W := by
  refine ⟨h.1, ?_⟩
  rw [upd_ne (Ne.symm h1), upd_ne (Ne.symm h2)]
  exact h.2
theorem GInv.drew (h : GInv w l bb W) (d : Nat) : GInv w l bb (W.drewN d) := by
  refine ⟨ext_drewN h.1 d, ?_⟩
  have hb := ext_drewN (Below.refl W.heap.size W) d
  have hs : (W.drewN d).heap.size = W.heap.size := by simp
  have h2 := h.2
  cases h29 : bb 29 with
  | true => rw [h29] at h2; exact BK.ext h2 hb
  | false =>
    cases h28 : bb 28 with
    | true => rw [h29, h28] at h2; exact BK.ext h2 hb
    | false => rw [h29, h28] at h2; exact hs.trans h2
end
theorem clone_n (A : Option Addr) (c n : Nat) (l : List UInt8) (hn : l.length = n) (w : World) (h : RB w A l) (hl : n ≤ 100000) :
    Calls Try.prog 64 #[.slice A n c] w fun e w' => ∃ R d, e = .returned (.slice R n d) ∧ n ≤ d ∧ RB w' R l ∧ OwnB w.heap.size 5 w' (.slice R n d) l ∧ Below w.heap.size w w' := by
  subst hn
  refine (clone_calls A c l w h (by omega)).mono ?_
  rintro e w' ⟨v, rfl, ho, hb⟩
  obtain ⟨R, d, rfl, hr, hd, _⟩ := ho.form
  exact ⟨R, d, rfl, hd, hr, ho, hb⟩
theorem own_ne_bk {w : World} {B e n k t : Nat} {v : Value} {xs cs : List Value} (h : w.ownsRow B e 1 v n xs) (hk : BK w k t cs) (hne : e ≠ t) : v.ownBlock ≠ some k := by
  rcases h.2 with ⟨rfl, _⟩ | ⟨g, cap, cur, rfl, _, hg, _⟩
  · exact fun e => by cases e
  · intro e1
    have : g = k := Option.some.inj e1
    subst this
    have := hg.symm.trans hk
    injection this with this
    injection this with _ this
    exact hne this
/-- The packet that the bytes l say, opt its options, data its data. -/
def cand (l opt data : List UInt8) : Pk :=
  ⟨gb l 1, gb l 2, nb2 l 4, nb2 l 6, nb4 l 8, nb4 l 12, gb l 3, nb2 l 16, if isPr opt = true then prI opt else 0, if isOg (afterPr opt) = true then (nb2 (afterPr opt) 2 : Int) else 0, data⟩
theorem cand_cs (l opt data : List UInt8) (R : Option Addr) (n d : Nat) : (readCs (baseCs l) opt).set 10 (.slice R n d) = (cand l opt data).cs R n d := by
  unfold readCs cand Pk.cs baseCs
  split <;> split <;> rfl
theorem readCs_10 (l opt : List UInt8) : (readCs (baseCs l) opt)[10]? = some (.slice none 0 0) := by
  unfold readCs baseCs
  split <;> split <;> rfl
theorem one_cs (P : Pk) (R : Option Addr) (n d : Nat) : (P.cs R n d).toArray.all (·.oneCell') = true := by simp [Pk.cs, Value.oneCell']
theorem strB_inj {a b : List UInt8} (h : strB a = strB b) : a = b := by rw [← strB_toList a, ← strB_toList b, h]
/-- What Get makes of bytes: a packet and a number. -/
def getP (l : List UInt8) : Pk × Int :=
  if l.length < 22 ∨ l.length < 22 + gb l 20 then (Pk.zero, 2)
  else if ¬ (inetN [l] = 65535 ∨ inetN [l] = 0) then (Pk.zero, 10)
  else if 128 < (l.drop (22 + gb l 20)).length then (Pk.zero, 4)
  else if okN (cand l ((l.take (22 + gb l 20)).drop 22) (l.drop (22 + gb l 20))) (l.drop (22 + gb l 20)).length = true ∧ putP (cand l ((l.take (22 + gb l 20)).drop 22) (l.drop (22 + gb l 20))) = l then (cand l ((l.take (22 + gb l 20)).drop 22) (l.drop (22 + gb l 20)), 0)
  else (Pk.zero, 20)
def Got (w : World) (l : List UInt8) (e : Ending) (w' : World) : Prop :=
  ∃ R n d, e = .returned (.tuple #[.agg ((getP l).1.cs R n d).toArray, .int .i64 (getP l).2]) ∧ n = (getP l).1.data.length ∧ n ≤ d ∧ OwnB w.heap.size 5 w' (.slice R n d) (getP l).1.data ∧ Below w.heap.size w w'
theorem Got.zero {w w' : World} {l : List UInt8} {E : Int} (hb : Below w.heap.size w w') (h : getP l = (Pk.zero, E)) : Got w l (.returned (.tuple #[.agg zeroCs.toArray, .int .i64 E])) w' :=
  ⟨none, 0, 0, by rw [h, ← zeroCs_cs], by rw [h]; rfl, Nat.le_refl _, by rw [h]; exact OwnB.nil _ _ _, hb⟩
theorem Got.ok {w w' : World} {l : List UInt8} {P : Pk} {R : Option Addr} {n d : Nat} (hb : Below w.heap.size w w') (h : getP l = (P, 0)) (hn : P.data.length = n) (hd : n ≤ d) (ho : OwnB w.heap.size 5 w' (.slice R n d) P.data) :
    Got w l (.returned (.tuple #[.agg (P.cs R n d).toArray, .int .i64 0])) w' :=
  ⟨R, n, d, by rw [h], by rw [h]; exact hn.symm, hd, by rw [h]; exact ho, hb⟩
theorem getP_main {l : List UInt8} {x : Nat} (hx : gb l 20 = x) (h22 : 22 ≤ l.length) (h20 : 22 + x ≤ l.length) (hv : inetN [l] = 65535 ∨ inetN [l] = 0) (opt data : List UInt8) (P : Pk) (ho : List.drop 22 (List.take (22 + x) l) = opt) (hd : List.drop (22 + x) l = data) (hP : cand l opt data = P) :
    (128 < data.length → getP l = (Pk.zero, 4)) ∧ (data.length ≤ 128 → okN P data.length = true → putP P = l → getP l = (P, 0)) ∧ (data.length ≤ 128 → ¬ (okN P data.length = true ∧ putP P = l) → getP l = (Pk.zero, 20)) := by
  unfold getP
  rw [hx, ho, hd, hP, if_neg (by omega), if_neg (fun h => h hv)]
  refine ⟨fun h => if_pos h, fun h1 h2 h3 => ?_, fun h1 h2 => ?_⟩
  · rw [if_neg (by omega), if_pos ⟨h2, h3⟩]
  · rw [if_neg (by omega), if_neg h2]
-- left out: flume/packet.Get
-- left out: flume/packet.Get
end Go.Proofs.Ytjhnnnklfhbebaa
