/- packet: Takes, Back, Refuse; flumeref04's; flumelaw04.one: the walks. -/
import Derived.Test.YtjhnnnklfhbebaaPkF
namespace Go.Proofs.Ytjhnnnklfhbebaa
open Go.RowKit
set_option linter.unusedVariables false
set_option linter.unusedSimpArgs false

/-! ### flags -/
theorem and_mask (n k : Nat) (hk : ∀ m, m ≤ k → m &&& k = m → m = 0 ∨ m = k) : n &&& k = 0 ∨ n &&& k = k := hk _ Nat.and_le_right (by rw [Nat.and_assoc, Nat.and_self])
theorem fbit (fl : Int) (k : Nat) (hk : ∀ m, m ≤ k → m &&& k = m → m = 0 ∨ m = k) (h64 : k < 9223372036854775808) : bits .and .i64 fl (k : Int) = 0 ∨ bits .and .i64 fl (k : Int) = (k : Int) := by
  have e : bits .and .i64 fl (k : Int) = IntKind.i64.wrap ((((BitVec.ofInt 64 fl).toNat &&& k : Nat)) : Int) := by
    have hk' : k % 2 ^ 64 = k := Nat.mod_eq_of_lt (by omega)
    have : (BitVec.ofInt 64 fl &&& BitVec.ofNat 64 k).toNat = (BitVec.ofInt 64 fl).toNat &&& k := by rw [BitVec.toNat_and, BitVec.toNat_ofNat, hk']
    rw [← this]
    simp only [bits, IntKind.bits, BitVec.ofInt_natCast]
    rfl
  rw [e]
  rcases and_mask (BitVec.ofInt 64 fl).toNat k hk with h | h
  · rw [h]; exact .inl rfl
  · rw [h]; exact .inr (IntWalk.i64_in _ (by omega))
theorem fbit1 (fl : Int) : bits .and .i64 fl 1 = 0 ∨ bits .and .i64 fl 1 = 1 := fbit fl 1 (by decide) (by omega)
theorem fbit2 (fl : Int) : bits .and .i64 fl 2 = 0 ∨ bits .and .i64 fl 2 = 2 := fbit fl 2 (by decide) (by omega)
theorem fbit4 (fl : Int) : bits .and .i64 fl 4 = 0 ∨ bits .and .i64 fl 4 = 4 := fbit fl 4 (by decide) (by omega)
theorem fbit8 (fl : Int) : bits .and .i64 fl 8 = 0 ∨ bits .and .i64 fl 8 = 8 := fbit fl 8 (by decide) (by omega)
/-- How many numbers a packet of n bytes with these flags takes. -/
def takesN (fl : Int) (n : Nat) : Nat := n + (if bits .and .i64 fl 1 = 0 then 0 else 1) + (if bits .and .i64 fl 4 = 0 then 0 else 1)
theorem heap_end {w : World} {k : Nat} (h : w.heap.size = k) (cs : Array Value) (t : TypeId) : (w.alloc (.cells cs t)).heap[k]? = some (.cells cs t (0, 0)) := by subst h; exact heap_new w _ rfl
def Pk.back (p : Pk) : Pk := ⟨p.dst, p.src, p.dp, p.sp, 0, 0, 0, 0, 0, 0, []⟩
/-- What is told of it; none: nothing. -/
def Pk.refuse (p : Pk) (n : Nat) : Pk × Bool :=
  if bits .and .i64 p.fl 8 = 0 then (⟨p.dst, p.src, p.dp, p.sp, if bits .and .i64 p.fl 2 = 0 then 0 else p.ack, (p.seq + takesN p.fl n) % 4294967296, 10, 0, 0, 0, []⟩, true) else (Pk.zero, false)

set_option maxRecDepth 100000 in
set_option maxHeartbeats 1000000 in
theorem takes_n (p : Pk) (A : Option Addr) (n c : Nat) (hn : n ≤ 100000) (w : World) :
    Calls Try.prog 101 #[.agg (p.cs A n c).toArray] w fun e w' => e = .returned (.int .i64 (takesN p.fl n : Int)) ∧ Below w.heap.size w w' := by
  obtain ⟨src, dst, sp, dp, seq, ack, fl, wn, pr, og, data⟩ := p
  obtain ⟨T, hT⟩ : ∃ T, takesN fl n = T := ⟨_, rfl⟩
  dsimp only
  rw [hT]
  have HT := Lib.hid hT
  clear hT
  simp only [Pk.cs]
  rcases fbit1 fl with h1 | h1 <;> rcases fbit4 fl with h4 | h4 <;> (go_enter Try.func101, Try.ntmps101) <;> (go_wp2_with fail) <;> go_ret <;> refine ⟨?_, ext_alloc _ _⟩ <;> (have h := HT.out; unfold takesN at h; rw [h1, h4] at h; simp at h; rw [← h]; simp)
set_option maxRecDepth 100000 in
set_option maxHeartbeats 1000000 in
theorem rtakes_n (p : Pk) (A : Option Addr) (n c : Nat) (hn : n ≤ 100000) (w : World) :
    Calls Try.prog 91 #[.agg (p.cs A n c).toArray] w fun e w' => e = .returned (.int .i64 (takesN p.fl n : Int)) ∧ Below w.heap.size w w' := by
  obtain ⟨src, dst, sp, dp, seq, ack, fl, wn, pr, og, data⟩ := p
  obtain ⟨T, hT⟩ : ∃ T, takesN fl n = T := ⟨_, rfl⟩
  dsimp only
  rw [hT]
  have HT := Lib.hid hT
  clear hT
  simp only [Pk.cs]
  rcases fbit1 fl with h1 | h1 <;> rcases fbit4 fl with h4 | h4 <;> (go_enter Try.func91, Try.ntmps91) <;> (go_wp2_with fail) <;> go_ret <;> refine ⟨?_, ext_alloc _ _⟩ <;> (have h := HT.out; unfold takesN at h; rw [h1, h4] at h; simp at h; rw [← h]; simp)
set_option maxRecDepth 100000 in
set_option maxHeartbeats 1000000 in
theorem back_n (p : Pk) (A : Option Addr) (n c : Nat) (w : World) :
    Calls Try.prog 100 #[.agg (p.cs A n c).toArray] w fun e w' => e = .returned (.agg (p.back.cs none 0 0).toArray) ∧ Below w.heap.size w w' := by
  obtain ⟨src, dst, sp, dp, seq, ack, fl, wn, pr, og, data⟩ := p
  simp only [Pk.cs, Pk.back]
  go_enter Try.func100, Try.ntmps100
  go_wp2_with fail
  refine bodyPost_ret (results_cell_row rfl _ _ (w.heap.size + 1) 32 _ (0, 0) _ rfl (heap_end (by simp) _ _) Try.underlying32 rfl (infoP _ rfl)) rfl ?_
  exact ⟨rfl, ((Below.refl _ _).alloc (Nat.le_refl _) _).alloc (by simp) _⟩
set_option maxRecDepth 100000 in
set_option maxHeartbeats 1000000 in
theorem rback_n (p : Pk) (A : Option Addr) (n c : Nat) (w : World) :
    Calls Try.prog 106 #[.agg (p.cs A n c).toArray] w fun e w' => e = .returned (.agg (p.back.cs none 0 0).toArray) ∧ Below w.heap.size w w' := by
  obtain ⟨src, dst, sp, dp, seq, ack, fl, wn, pr, og, data⟩ := p
  simp only [Pk.cs, Pk.back]
  go_enter Try.func106, Try.ntmps106
  go_wp2_with fail
  refine bodyPost_ret (results_cell_row rfl _ _ (w.heap.size + 1) 32 _ (0, 0) _ rfl (heap_old (heap_end (by simp) _ _)) Try.underlying32 rfl (infoP _ rfl)) rfl ?_
  exact ⟨rfl, (((Below.refl _ _).alloc (Nat.le_refl _) _).alloc (by simp) _).alloc (by simp; omega) _⟩
def onePk : Pk := ⟨1, 2, 1000, 80, 5, 0, 1, 9, 0, 0, []⟩
-- left out: flume/flumelaw04.one
set_option maxRecDepth 100000 in
set_option maxHeartbeats 1000000 in
theorem refuse_no (p : Pk) (A : Option Addr) (n c : Nat) (h8 : bits .and .i64 p.fl 8 = 8) (w : World) :
    Calls Try.prog 84 #[.agg (p.cs A n c).toArray] w fun e w' => e = .returned (.tuple #[.agg zeroCs.toArray, .bool false]) ∧ Below w.heap.size w w' := by
  obtain ⟨src, dst, sp, dp, seq, ack, fl, wn, pr, og, data⟩ := p
  dsimp only at h8
  simp only [Pk.cs]
  go_enter Try.func84, Try.ntmps84
  go_wp2_with fail
  refine bodyPost_ret (results_ct rfl _ _ (w.heap.size + 1) 32 _ (0, 0) _ rfl (heap_end (by simp) _ _) Try.underlying32 rfl (infoP _ rfl)) rfl ?_
  exact ⟨rfl, ((Below.refl _ _).alloc (Nat.le_refl _) _).alloc (by simp) _⟩
set_option maxRecDepth 100000 in
set_option maxHeartbeats 1000000 in
theorem rrefuse_no (p : Pk) (A : Option Addr) (n c : Nat) (h8 : bits .and .i64 p.fl 8 = 8) (w : World) :
    Calls Try.prog 87 #[.agg (p.cs A n c).toArray] w fun e w' => e = .returned (.tuple #[.agg zeroCs.toArray, .bool false]) ∧ Below w.heap.size w w' := by
  obtain ⟨src, dst, sp, dp, seq, ack, fl, wn, pr, og, data⟩ := p
  dsimp only at h8
  simp only [Pk.cs]
  go_enter Try.func87, Try.ntmps87
  go_wp2_with fail
  refine bodyPost_ret (results_ct rfl _ _ (w.heap.size + 1) 32 _ (0, 0) _ rfl (heap_end (by simp) _ _) Try.underlying32 rfl (infoP _ rfl)) rfl ?_
  exact ⟨rfl, ((Below.refl _ _).alloc (Nat.le_refl _) _).alloc (by simp) _⟩
/-- What the region of Ack goes through: the packet, the place of the answer, the answer before and behind. -/
def RInv (w : World) (kp kz kr : Nat) (ps cs : List Value) (v : Value) (L : Nat) (bb : Nat → Bool) (W : World) : Prop :=
  Below w.heap.size w W ∧ BK W kp 32 ps ∧ BK W kz 32 zeroCs ∧ (bif bb L then BK W kr 32 (cs.set 5 v) else BK W kr 32 cs)
section
variable {w W W' : World} {kp kz kr L : Nat} {ps cs : List Value} {v : Value} {bb : Nat → Bool}
theorem RInv.start (h : Below w.heap.size w W) (hp : BK W kp 32 ps) (hz : BK W kz 32 zeroCs) (hr : BK W kr 32 cs) : RInv w kp kz kr ps cs v L (fun _ => false) W.drew :=
  have hb := (Below.refl W.heap.size W).drew
  ⟨h.drew, hp.ext hb, hz.ext hb, hr.ext hb⟩
theorem RInv.step (h : RInv w kp kz kr ps cs v L bb W) {i : Nat} (h1 : i ≠ L) : RInv w kp kz kr ps cs v L (upd bb i) W := by
  refine ⟨h.1, h.2.1, h.2.2.1, ?_⟩
  rw [upd_ne (Ne.symm h1)]
  exact h.2.2.2
theorem RInv.ext (h : RInv w kp kz kr ps cs v L bb W) (hb : Below W.heap.size W W') : RInv w kp kz kr ps cs v L bb W' := by
  refine ⟨h.1.trans (hb.mono h.1.size), h.2.1.ext hb, h.2.2.1.ext hb, ?_⟩
  have h4 := h.2.2.2
  cases hL : bb L with
  | true => rw [hL] at h4; exact BK.ext h4 hb
  | false => rw [hL] at h4; exact BK.ext h4 hb
theorem RInv.mid (h : RInv w kp kz kr ps cs v L bb W) (hL : bb L = false) : BK W kr 32 cs := by
  have := h.2.2.2; rw [hL] at this; exact this
theorem RInv.done (h : RInv w kp kz kr ps cs v L bb W) (hL : bb L = true) : BK W kr 32 (cs.set 5 v) := by
  have := h.2.2.2; rw [hL] at this; exact this
theorem RInv.put (h : RInv w kp kz kr ps cs v L bb W) (hL : bb L = false) (h1 : kp ≠ kr) (h2 : kz ≠ kr) (hb : w.heap.size ≤ kr) : RInv w kp kz kr ps cs v L (upd bb L) (W.setCell ⟨kr, 5, none⟩ v) := by
  have hg := grown_setCell W kr 5 v
  refine ⟨below_grown h.1 hg h.1.size hb, h.2.1.same (hg.block kp h.2.1.lt (fun e => h1 (Option.some.inj e))), h.2.2.1.same (hg.block kz h.2.2.1.lt (fun e => h2 (Option.some.inj e))), ?_⟩
  rw [upd_self]
  exact (h.mid hL).set 5 v
end
set_option maxRecDepth 100000 in
set_option maxHeartbeats 1000000 in
theorem refuse_yes (p : Pk) (A : Option Addr) (n c : Nat) (hn : n ≤ 100000) (hseq : p.seq < 4294967296) (h8 : bits .and .i64 p.fl 8 = 0) (w : World) :
    Calls Try.prog 84 #[.agg (p.cs A n c).toArray] w fun e w' => e = .returned (.tuple #[.agg ((p.refuse n).1.cs none 0 0).toArray, .bool true]) ∧ Below w.heap.size w w' := by
  have HBK : Hid (∀ W : World, Calls Try.prog 100 #[.agg (p.cs A n c).toArray] W fun e w' => e = .returned (.agg (p.back.cs none 0 0).toArray) ∧ Below W.heap.size W w') := Lib.hid (back_n p A n c)
  have HTK : Hid (∀ W : World, Calls Try.prog 101 #[.agg (p.cs A n c).toArray] W fun e w' => e = .returned (.int .i64 (takesN p.fl n : Int)) ∧ Below W.heap.size W w') := Lib.hid (takes_n p A n c hn)
  obtain ⟨C, hC⟩ : ∃ C, ((p.refuse n).1.cs none 0 0).toArray = C := ⟨_, rfl⟩
  rw [hC]
  unfold Pk.refuse at hC
  rw [if_pos h8] at hC
  have HC := Lib.hid hC
  clear hC
  obtain ⟨src, dst, sp, dp, seq, ack, fl, wn, pr, og, data⟩ := p
  dsimp only at h8 hseq HTK HC
  obtain ⟨T, hT⟩ : ∃ T, takesN fl n = T := ⟨_, rfl⟩
  rw [hT] at HTK HC
  have hT2 : T ≤ n + 2 := by rw [← hT]; unfold takesN; split <;> split <;> omega
  clear hT
  simp only [Pk.cs, Pk.back] at HBK HTK HC ⊢
  go_enter Try.func84, Try.ntmps84
  go_wp2_with fail
  refine (HBK.out _).mono ?_
  rintro e w3 ⟨rfl, hb3⟩
  have hz3 : w.heap.size + 2 ≤ w3.heap.size := by have := hb3.size; simp at this; omega
  have HP3 := Lib.hid ((hb3.block w.heap.size (by simp; omega)).trans (heap_old (heap_end rfl _ _)))
  have HZ3 := Lib.hid ((hb3.block (w.heap.size + 1) (by simp)).trans (heap_end (by simp) _ _))
  have HB3 := Lib.hid ((((Below.refl w.heap.size w).alloc (Nat.le_refl _) _).alloc (by simp) _).trans (hb3.mono (by simp; omega)))
  clear hb3
  obtain ⟨k0, hk0⟩ : ∃ k, w.heap.size = k := ⟨_, rfl⟩
  obtain ⟨kr, hkr⟩ : ∃ k, w3.heap.size = k := ⟨_, rfl⟩
  have hzr : k0 + 1 < kr := by omega
  have hpr : k0 < kr := by omega
  go_upto_region 5 with fail
  have hP5 := heap_old (o := .cells #[.int .i64 dst, .int .i64 src, .int .i64 dp, .int .i64 sp, .int .u32 0, .int .u32 0, .int .i64 10, .int .i64 0, .int .i64 0, .int .i64 0, .slice none 0 0] 32) HP3.out
  have hZ5 := heap_old (o := .cells #[.int .i64 dst, .int .i64 src, .int .i64 dp, .int .i64 sp, .int .u32 0, .int .u32 0, .int .i64 10, .int .i64 0, .int .i64 0, .int .i64 0, .slice none 0 0] 32) HZ3.out
  have hR5 := heap_end rfl (w := w3) #[.int .i64 dst, .int .i64 src, .int .i64 dp, .int .i64 sp, .int .u32 0, .int .u32 0, .int .i64 10, .int .i64 0, .int .i64 0, .int .i64 0, .slice none 0 0] 32
  have hB5 := HB3.out.alloc (by have := HB3.out.size; omega) (.cells #[.int .i64 dst, .int .i64 src, .int .i64 dp, .int .i64 sp, .int .u32 0, .int .u32 0, .int .i64 10, .int .i64 0, .int .i64 0, .int .i64 0, .slice none 0 0] 32)
  have hz5 : (w3.alloc (.cells #[.int .i64 dst, .int .i64 src, .int .i64 dp, .int .i64 sp, .int .u32 0, .int .u32 0, .int .i64 10, .int .i64 0, .int .i64 0, .int .i64 0, .slice none 0 0] 32)).heap.size = w3.heap.size + 1 := by simp
  clear HP3 HZ3 HB3
  generalize w3.alloc (.cells #[.int .i64 dst, .int .i64 src, .int .i64 dp, .int .i64 sp, .int .u32 0, .int .u32 0, .int .i64 10, .int .i64 0, .int .i64 0, .int .i64 0, .slice none 0 0] 32) = w5 at *
  rw [hkr] at hR5 hz5
  try rw [hkr]
  rw [hk0] at hP5 hZ5
  try rw [hk0]
  have HK0 := Lib.hid hk0
  have HP5 : Hid (BK w5 k0 32 [.int .i64 src, .int .i64 dst, .int .i64 sp, .int .i64 dp, .int .u32 (seq : Int), .int .u32 (ack : Int), .int .i64 fl, .int .i64 wn, .int .i64 pr, .int .i64 og, .slice A n c]) := Lib.hid hP5
  have HZ5 : Hid (BK w5 (k0 + 1) 32 zeroCs) := Lib.hid hZ5
  have HR5 : Hid (BK w5 kr 32 [.int .i64 dst, .int .i64 src, .int .i64 dp, .int .i64 sp, .int .u32 0, .int .u32 0, .int .i64 10, .int .i64 0, .int .i64 0, .int .i64 0, .slice none 0 0]) := Lib.hid hR5
  have HB5 := Lib.hid hB5
  have HSZ := Lib.hid hz5
  clear hP5 hZ5 hR5 hB5 hz5 hkr hk0 hz3
  obtain ⟨KA, hK⟩ : ∃ K, (seq + T) % 4294967296 = K := ⟨_, rfl⟩
  have HKN := Lib.hid hK
  have HSQ := Lib.hid hseq
  have HK32 : Hid (KA < 4294967296) := Lib.hid (by omega)
  have HKK : Hid (IntKind.u32.wrap ((seq : Int) + (T : Int)) = (KA : Int)) := Lib.hid (by rw [← Int.natCast_add, wrap_u32_nat, hK])
  have HKM : Hid (((seq : Int) + (T : Int)).tmod 4294967296 = (KA : Int)) := Lib.hid (by rw [← hK, ← Int.natCast_add]; exact (Int.ofNat_tmod (seq + T) 4294967296).symm)
  clear hK hseq
  refine wp_region_inv [[], [0], [], [2], [2, 3], [0, 1, 2, 3, 4], [0, 1, 2, 3, 4, 5], [0, 1, 2, 3, 4, 5, 6]]
    [fun u => u = .pointer (some ⟨k0, 4, none⟩),
     fun u => u = .int .u32 (seq : Int),
     fun u => u = .agg ([.int .i64 src, .int .i64 dst, .int .i64 sp, .int .i64 dp, .int .u32 (seq : Int), .int .u32 (ack : Int), .int .i64 fl, .int .i64 wn, .int .i64 pr, .int .i64 og, .slice A n c] : List Value).toArray,
     fun u => u = .int .i64 (T : Int),
     fun u => u = .int .u32 (T : Int),
     fun u => u = .int .u32 (KA : Int),
     fun u => u = .pointer (some ⟨kr, 5, none⟩),
     fun _ => True]
    (fun u => ⟨#[Value.agg #[Value.int IntKind.i64 src, Value.int IntKind.i64 dst, Value.int IntKind.i64 sp, Value.int IntKind.i64 dp, Value.int IntKind.u32 (seq : Int), Value.int IntKind.u32 (ack : Int), Value.int IntKind.i64 fl, Value.int IntKind.i64 wn, Value.int IntKind.i64 pr, Value.int IntKind.i64 og, Value.slice A n c], Value.pointer (some { block := k0, off := 0 }), Value.pointer (some { block := k0 + 1, off := 0 }), Value.bool false, Value.pointer (some { block := kr, off := 0 }), Value.pointer (some { block := k0, off := 6 }), Value.int IntKind.i64 fl, Value.int IntKind.i64 0, Value.bool false, undef, Value.agg #[Value.int IntKind.i64 src, Value.int IntKind.i64 dst, Value.int IntKind.i64 sp, Value.int IntKind.i64 dp, Value.int IntKind.u32 (seq : Int), Value.int IntKind.u32 (ack : Int), Value.int IntKind.i64 fl, Value.int IntKind.i64 wn, Value.int IntKind.i64 pr, Value.int IntKind.i64 og, Value.slice A n c], Value.agg #[Value.int IntKind.i64 dst, Value.int IntKind.i64 src, Value.int IntKind.i64 dp, Value.int IntKind.i64 sp, Value.int IntKind.u32 0, Value.int IntKind.u32 0, Value.int IntKind.i64 0, Value.int IntKind.i64 0, Value.int IntKind.i64 0, Value.int IntKind.i64 0, Value.slice none 0 0], Value.pointer (some { block := kr, off := 6 }), u 0, u 1, u 2, u 3, u 4, u 5, u 6, undef, undef, undef, undef, undef, undef, undef, undef], []⟩)
    (RInv w k0 (k0 + 1) kr [.int .i64 src, .int .i64 dst, .int .i64 sp, .int .i64 dp, .int .u32 (seq : Int), .int .u32 (ack : Int), .int .i64 fl, .int .i64 wn, .int .i64 pr, .int .i64 og, .slice A n c] [.int .i64 dst, .int .i64 src, .int .i64 dp, .int .i64 sp, .int .u32 0, .int .u32 0, .int .i64 10, .int .i64 0, .int .i64 0, .int .i64 0, .slice none 0 0] (.int .u32 (KA : Int)) 7) (fun j => [undef, undef, undef, undef, undef, undef, undef, undef].getD j undef) (by kernel_rfl) (by kernel_rfl) (by kernel_rfl) rfl (RInv.start HB5.out HP5.out HZ5.out HR5.out) ?_ ?_
  · refine ⟨?_, ?_, ?_, ?_, ?_, ?_, ?_, ?_, trivial⟩
    · intro bb u w2 hv hbi hC hF J K hJ hK
      have HV := Lib.hid hv
      have HF := Lib.hid hF
      have HC := Lib.hid hC
      have HBI := Lib.hid hbi
      clear hv hF hC hbi
      go_wp2
      exact hJ _ _ _ (HV.out.step (by decide)) (rfl) (by simp [setU] <;> omega)
    · intro bb u w2 hv hbi hC hF J K hJ hK
      have HV := Lib.hid hv
      have HF := Lib.hid hF
      have HC := Lib.hid hC
      have HBI := Lib.hid hbi
      clear hv hF hC hbi
      have f0 : u 0 = .pointer (some ⟨k0, 4, none⟩) := (HF.out 0 (by decide)).2
      have c4 : w2.cell? ⟨k0, 4, none⟩ = some (.int .u32 (seq : Int)) := HV.out.2.1.cell rfl
      go_wp2
      exact hJ _ _ _ (HV.out.step (by decide)) (rfl) (by simp [setU, f0] <;> omega)
    · intro bb u w2 hv hbi hC hF J K hJ hK
      have HV := Lib.hid hv
      have HF := Lib.hid hF
      have HC := Lib.hid hC
      have HBI := Lib.hid hbi
      clear hv hF hC hbi
      have HPP := Lib.hid HV.out.2.1
      dsimp only
      go_wp2_with ((with_reducible refine (?_ : wpList _ _ _ [_] _ _)); refine wpList_load_row rfl 32 _ rfl k0 rfl 32 ([.int .i64 src, .int .i64 dst, .int .i64 sp, .int .i64 dp, .int .u32 (seq : Int), .int .u32 (ack : Int), .int .i64 fl, .int .i64 wn, .int .i64 pr, .int .i64 og, .slice A n c] : List Value).toArray (0, 0) _ HPP.out Try.underlying32 rfl (infoP _ rfl) ?_)
      exact hJ _ _ _ (HV.out.step (by decide)) (rfl) (by simp [setU] <;> omega)
    · intro bb u w2 hv hbi hC hF J K hJ hK
      have HV := Lib.hid hv
      have HF := Lib.hid hF
      have HC := Lib.hid hC
      have HBI := Lib.hid hbi
      clear hv hF hC hbi
      have f2 : u 2 = .agg ([.int .i64 src, .int .i64 dst, .int .i64 sp, .int .i64 dp, .int .u32 (seq : Int), .int .u32 (ack : Int), .int .i64 fl, .int .i64 wn, .int .i64 pr, .int .i64 og, .slice A n c] : List Value).toArray := (HF.out 2 (by decide)).2
      go_wp2_with fail
      refine (HTK.out w2).mono ?_
      rintro e w4 ⟨rfl, hb4⟩
      have HB4 := Lib.hid hb4
      clear hb4
      go_wp2
      exact hJ _ _ _ ((HV.out.ext HB4.out).step (by decide)) (rfl) (by simp [setU, f2] <;> omega)
    · intro bb u w2 hv hbi hC hF J K hJ hK
      have HV := Lib.hid hv
      have HF := Lib.hid hF
      have HC := Lib.hid hC
      have HBI := Lib.hid hbi
      clear hv hF hC hbi
      have f3 : u 3 = .int .i64 (T : Int) := (HF.out 3 (by decide)).2
      have e17 : IntKind.u32.wrap (T : Int) = (T : Int) := IntWalk.u32_in _ (by omega)
      go_wp2
      exact hJ _ _ _ (HV.out.step (by decide)) (rfl) (by simp [setU, f3] <;> omega)
    · intro bb u w2 hv hbi hC hF J K hJ hK
      have HV := Lib.hid hv
      have HF := Lib.hid hF
      have HC := Lib.hid hC
      have HBI := Lib.hid hbi
      clear hv hF hC hbi
      have f1 : u 1 = .int .u32 (seq : Int) := (HF.out 1 (by decide)).2
      have f4 : u 4 = .int .u32 (T : Int) := (HF.out 4 (by decide)).2
      have e18 := HKK.out
      go_wp2
      exact hJ _ _ _ (HV.out.step (by decide)) (rfl) (by simp [setU, f1, f4] <;> omega)
    · intro bb u w2 hv hbi hC hF J K hJ hK
      have HV := Lib.hid hv
      have HF := Lib.hid hF
      have HC := Lib.hid hC
      have HBI := Lib.hid hbi
      clear hv hF hC hbi
      go_wp2
      exact hJ _ _ _ (HV.out.step (by decide)) (rfl) (by simp [setU] <;> omega)
    · intro bb u w2 hv hbi hC hF J K hJ hK
      have HV := Lib.hid hv
      have HF := Lib.hid hF
      have HC := Lib.hid hC
      have HBI := Lib.hid hbi
      clear hv hF hC hbi
      have f5 : u 5 = .int .u32 (KA : Int) := (HF.out 5 (by decide)).2
      have f6 : u 6 = .pointer (some ⟨kr, 5, none⟩) := (HF.out 6 (by decide)).2
      have k5 : w2.cell? ⟨kr, 5, none⟩ = some (.int .u32 0) := (HV.out.mid HBI.out).cell rfl
      have g5 := (HV.out.mid HBI.out).frozen 5
      go_wp2
      exact hJ undef _ _ (HV.out.put HBI.out (by omega) (by omega) (by rw [HK0.out]; omega)) (trivial) (by simp [setU, f5, f6] <;> omega)
  · intro bb u w2 hb hv hF
    have HV := Lib.hid hv
    have HBB := Lib.hid hb
    clear hv hb hF
    have HR6 := Lib.hid (HV.out.done (HBB.out 7 (by decide)))
    have HP6 := Lib.hid HV.out.2.1
    have HZ6 := Lib.hid HV.out.2.2.1
    have HB6 := Lib.hid HV.out.1
    have c6 : w2.cell? ⟨k0, 6, none⟩ = some (.int .i64 fl) := HP6.out.cell rfl
    rcases fbit2 fl with h2 | h2
    · have HR7 : Hid (BK w2 kr 32 [.int .i64 dst, .int .i64 src, .int .i64 dp, .int .i64 sp, .int .u32 0, .int .u32 (KA : Int), .int .i64 10, .int .i64 0, .int .i64 0, .int .i64 0, .slice none 0 0]) := HR6
      have HZ7 := HZ6
      have HB7 := HB6
      go_wp2_with first | ((with_reducible refine (?_ : wpList _ _ _ (_ :: _) _ _)); refine wpList_load_row rfl 32 _ rfl kr rfl 32 ([.int .i64 dst, .int .i64 src, .int .i64 dp, .int .i64 sp, .int .u32 0, .int .u32 (KA : Int), .int .i64 10, .int .i64 0, .int .i64 0, .int .i64 0, .slice none 0 0] : List Value).toArray (0, 0) _ HR7.out Try.underlying32 rfl (infoP _ rfl) ?_) | ((with_reducible refine (?_ : wpList _ _ _ (_ :: _) _ _)); refine wpList_store_bk rfl 32 _ _ rfl (k0 + 1) [.int .i64 dst, .int .i64 src, .int .i64 dp, .int .i64 sp, .int .u32 0, .int .u32 (KA : Int), .int .i64 10, .int .i64 0, .int .i64 0, .int .i64 0, .slice none 0 0] rfl rfl 32 _ HZ7.out (infoP _ rfl) rfl (by simp [Value.oneCell']) ?_)
      intro w8 hk8 hg8 _
      have HK8 := Lib.hid hk8
      have HB8 := Lib.hid (below_grown HB7.out hg8 (by have := HB7.out.size; omega) (by rw [HK0.out]; omega))
      clear hk8 hg8
      go_wp2_with fail
      refine bodyPost_ret (results_ct rfl _ _ (k0 + 1) 32 _ (0, 0) _ rfl HK8.out Try.underlying32 rfl (infoP _ rfl)) rfl ?_
      refine ⟨?_, HB8.out⟩
      rw [← HC.out, HKN.out]
      simp [h2]
    · have c5 : w2.cell? ⟨k0, 5, none⟩ = some (.int .u32 (ack : Int)) := HP6.out.cell rfl
      have k4 : w2.cell? ⟨kr, 4, none⟩ = some (.int .u32 0) := HR6.out.cell rfl
      have g4 := HR6.out.frozen 4
      have hg7 := grown_setCell w2 kr 4 (.int .u32 (ack : Int))
      have HR7 : Hid (BK (w2.setCell ⟨kr, 4, none⟩ (.int .u32 (ack : Int))) kr 32 [.int .i64 dst, .int .i64 src, .int .i64 dp, .int .i64 sp, .int .u32 (ack : Int), .int .u32 (KA : Int), .int .i64 10, .int .i64 0, .int .i64 0, .int .i64 0, .slice none 0 0]) := Lib.hid (HR6.out.set 4 _)
      have HZ7 := Lib.hid (HZ6.out.same (hg7.block (k0 + 1) HZ6.out.lt (fun e => by have := Option.some.inj e; omega)))
      have HB7 := Lib.hid (below_grown HB6.out hg7 (by have := HB6.out.size; omega) (by rw [HK0.out]; omega))
      clear hg7
      go_upto_region 8 with fail
      clear c5 c6 k4 g4
      generalize w2.setCell ⟨kr, 4, none⟩ (.int .u32 (ack : Int)) = w7 at *
      go_wp2_with first | ((with_reducible refine (?_ : wpList _ _ _ (_ :: _) _ _)); refine wpList_load_row rfl 32 _ rfl kr rfl 32 ([.int .i64 dst, .int .i64 src, .int .i64 dp, .int .i64 sp, .int .u32 (ack : Int), .int .u32 (KA : Int), .int .i64 10, .int .i64 0, .int .i64 0, .int .i64 0, .slice none 0 0] : List Value).toArray (0, 0) _ HR7.out Try.underlying32 rfl (infoP _ rfl) ?_) | ((with_reducible refine (?_ : wpList _ _ _ (_ :: _) _ _)); refine wpList_store_bk rfl 32 _ _ rfl (k0 + 1) [.int .i64 dst, .int .i64 src, .int .i64 dp, .int .i64 sp, .int .u32 (ack : Int), .int .u32 (KA : Int), .int .i64 10, .int .i64 0, .int .i64 0, .int .i64 0, .slice none 0 0] rfl rfl 32 _ HZ7.out (infoP _ rfl) rfl (by simp [Value.oneCell']) ?_)
      intro w8 hk8 hg8 _
      have HK8 := Lib.hid hk8
      have HB8 := Lib.hid (below_grown HB7.out hg8 (by have := HB7.out.size; omega) (by rw [HK0.out]; omega))
      clear hk8 hg8
      go_wp2_with fail
      refine bodyPost_ret (results_ct rfl _ _ (k0 + 1) 32 _ (0, 0) _ rfl HK8.out Try.underlying32 rfl (infoP _ rfl)) rfl ?_
      refine ⟨?_, HB8.out⟩
      rw [← HC.out, HKN.out]
      simp [h2]
set_option maxRecDepth 100000 in
set_option maxHeartbeats 1000000 in
theorem rrefuse_yes (p : Pk) (A : Option Addr) (n c : Nat) (hn : n ≤ 100000) (hseq : p.seq < 4294967296) (h8 : bits .and .i64 p.fl 8 = 0) (w : World) :
    Calls Try.prog 87 #[.agg (p.cs A n c).toArray] w fun e w' => e = .returned (.tuple #[.agg ((p.refuse n).1.cs none 0 0).toArray, .bool true]) ∧ Below w.heap.size w w' := by
  have HBK : Hid (∀ W : World, Calls Try.prog 106 #[.agg (p.cs A n c).toArray] W fun e w' => e = .returned (.agg (p.back.cs none 0 0).toArray) ∧ Below W.heap.size W w') := Lib.hid (rback_n p A n c)
  have HTK : Hid (∀ W : World, Calls Try.prog 91 #[.agg (p.cs A n c).toArray] W fun e w' => e = .returned (.int .i64 (takesN p.fl n : Int)) ∧ Below W.heap.size W w') := Lib.hid (rtakes_n p A n c hn)
  obtain ⟨C, hC⟩ : ∃ C, ((p.refuse n).1.cs none 0 0).toArray = C := ⟨_, rfl⟩
  rw [hC]
  unfold Pk.refuse at hC
  rw [if_pos h8] at hC
  have HC := Lib.hid hC
  clear hC
  obtain ⟨src, dst, sp, dp, seq, ack, fl, wn, pr, og, data⟩ := p
  dsimp only at h8 hseq HTK HC
  obtain ⟨T, hT⟩ : ∃ T, takesN fl n = T := ⟨_, rfl⟩
  rw [hT] at HTK HC
  have hT2 : T ≤ n + 2 := by rw [← hT]; unfold takesN; split <;> split <;> omega
  clear hT
  simp only [Pk.cs, Pk.back] at HBK HTK HC ⊢
  go_enter Try.func87, Try.ntmps87
  go_wp2_with fail
  refine (HBK.out _).mono ?_
  rintro e w3 ⟨rfl, hb3⟩
  have hz3 : w.heap.size + 2 ≤ w3.heap.size := by have := hb3.size; simp at this; omega
  have HP3 := Lib.hid ((hb3.block w.heap.size (by simp; omega)).trans (heap_old (heap_end rfl _ _)))
  have HZ3 := Lib.hid ((hb3.block (w.heap.size + 1) (by simp)).trans (heap_end (by simp) _ _))
  have HB3 := Lib.hid ((((Below.refl w.heap.size w).alloc (Nat.le_refl _) _).alloc (by simp) _).trans (hb3.mono (by simp; omega)))
  clear hb3
  obtain ⟨k0, hk0⟩ : ∃ k, w.heap.size = k := ⟨_, rfl⟩
  obtain ⟨kr, hkr⟩ : ∃ k, w3.heap.size = k := ⟨_, rfl⟩
  have hzr : k0 + 1 < kr := by omega
  have hpr : k0 < kr := by omega
  go_upto_region 5 with fail
  have hP5 := heap_old (o := .cells #[.int .i64 dst, .int .i64 src, .int .i64 dp, .int .i64 sp, .int .u32 0, .int .u32 0, .int .i64 10, .int .i64 0, .int .i64 0, .int .i64 0, .slice none 0 0] 32) HP3.out
  have hZ5 := heap_old (o := .cells #[.int .i64 dst, .int .i64 src, .int .i64 dp, .int .i64 sp, .int .u32 0, .int .u32 0, .int .i64 10, .int .i64 0, .int .i64 0, .int .i64 0, .slice none 0 0] 32) HZ3.out
  have hR5 := heap_end rfl (w := w3) #[.int .i64 dst, .int .i64 src, .int .i64 dp, .int .i64 sp, .int .u32 0, .int .u32 0, .int .i64 10, .int .i64 0, .int .i64 0, .int .i64 0, .slice none 0 0] 32
  have hB5 := HB3.out.alloc (by have := HB3.out.size; omega) (.cells #[.int .i64 dst, .int .i64 src, .int .i64 dp, .int .i64 sp, .int .u32 0, .int .u32 0, .int .i64 10, .int .i64 0, .int .i64 0, .int .i64 0, .slice none 0 0] 32)
  have hz5 : (w3.alloc (.cells #[.int .i64 dst, .int .i64 src, .int .i64 dp, .int .i64 sp, .int .u32 0, .int .u32 0, .int .i64 10, .int .i64 0, .int .i64 0, .int .i64 0, .slice none 0 0] 32)).heap.size = w3.heap.size + 1 := by simp
  clear HP3 HZ3 HB3
  generalize w3.alloc (.cells #[.int .i64 dst, .int .i64 src, .int .i64 dp, .int .i64 sp, .int .u32 0, .int .u32 0, .int .i64 10, .int .i64 0, .int .i64 0, .int .i64 0, .slice none 0 0] 32) = w5 at *
  rw [hkr] at hR5 hz5
  try rw [hkr]
  rw [hk0] at hP5 hZ5
  try rw [hk0]
  have HK0 := Lib.hid hk0
  have HP5 : Hid (BK w5 k0 32 [.int .i64 src, .int .i64 dst, .int .i64 sp, .int .i64 dp, .int .u32 (seq : Int), .int .u32 (ack : Int), .int .i64 fl, .int .i64 wn, .int .i64 pr, .int .i64 og, .slice A n c]) := Lib.hid hP5
  have HZ5 : Hid (BK w5 (k0 + 1) 32 zeroCs) := Lib.hid hZ5
  have HR5 : Hid (BK w5 kr 32 [.int .i64 dst, .int .i64 src, .int .i64 dp, .int .i64 sp, .int .u32 0, .int .u32 0, .int .i64 10, .int .i64 0, .int .i64 0, .int .i64 0, .slice none 0 0]) := Lib.hid hR5
  have HB5 := Lib.hid hB5
  have HSZ := Lib.hid hz5
  clear hP5 hZ5 hR5 hB5 hz5 hkr hk0 hz3
  obtain ⟨KA, hK⟩ : ∃ K, (seq + T) % 4294967296 = K := ⟨_, rfl⟩
  have HKN := Lib.hid hK
  have HSQ := Lib.hid hseq
  have HK32 : Hid (KA < 4294967296) := Lib.hid (by omega)
  have HKK : Hid (IntKind.u32.wrap ((seq : Int) + (T : Int)) = (KA : Int)) := Lib.hid (by rw [← Int.natCast_add, wrap_u32_nat, hK])
  have HKM : Hid (((seq : Int) + (T : Int)).tmod 4294967296 = (KA : Int)) := Lib.hid (by rw [← hK, ← Int.natCast_add]; exact (Int.ofNat_tmod (seq + T) 4294967296).symm)
  clear hK hseq
  refine wp_region_inv [[], [0], [0, 1], [], [3], [0, 1, 2, 3, 4], [0, 1, 2, 3, 4, 5], [0, 1, 2, 3, 4, 5, 6], [0, 1, 2, 3, 4, 5, 6, 7], [0, 1, 2, 3, 4, 5, 6, 7, 8]]
    [fun u => u = .pointer (some ⟨k0, 4, none⟩),
     fun u => u = .int .u32 (seq : Int),
     fun u => u = .int .i64 (seq : Int),
     fun u => u = .agg ([.int .i64 src, .int .i64 dst, .int .i64 sp, .int .i64 dp, .int .u32 (seq : Int), .int .u32 (ack : Int), .int .i64 fl, .int .i64 wn, .int .i64 pr, .int .i64 og, .slice A n c] : List Value).toArray,
     fun u => u = .int .i64 (T : Int),
     fun u => u = .int .i64 ((seq : Int) + (T : Int)),
     fun u => u = .int .i64 (KA : Int),
     fun u => u = .int .u32 (KA : Int),
     fun u => u = .pointer (some ⟨kr, 5, none⟩),
     fun _ => True]
    (fun u => ⟨#[Value.agg #[Value.int IntKind.i64 src, Value.int IntKind.i64 dst, Value.int IntKind.i64 sp, Value.int IntKind.i64 dp, Value.int IntKind.u32 (seq : Int), Value.int IntKind.u32 (ack : Int), Value.int IntKind.i64 fl, Value.int IntKind.i64 wn, Value.int IntKind.i64 pr, Value.int IntKind.i64 og, Value.slice A n c], Value.pointer (some { block := k0, off := 0 }), Value.pointer (some { block := k0 + 1, off := 0 }), Value.bool false, Value.pointer (some { block := kr, off := 0 }), Value.pointer (some { block := k0, off := 6 }), Value.int IntKind.i64 fl, Value.int IntKind.i64 0, Value.bool false, undef, Value.agg #[Value.int IntKind.i64 src, Value.int IntKind.i64 dst, Value.int IntKind.i64 sp, Value.int IntKind.i64 dp, Value.int IntKind.u32 (seq : Int), Value.int IntKind.u32 (ack : Int), Value.int IntKind.i64 fl, Value.int IntKind.i64 wn, Value.int IntKind.i64 pr, Value.int IntKind.i64 og, Value.slice A n c], Value.agg #[Value.int IntKind.i64 dst, Value.int IntKind.i64 src, Value.int IntKind.i64 dp, Value.int IntKind.i64 sp, Value.int IntKind.u32 0, Value.int IntKind.u32 0, Value.int IntKind.i64 0, Value.int IntKind.i64 0, Value.int IntKind.i64 0, Value.int IntKind.i64 0, Value.slice none 0 0], Value.pointer (some { block := kr, off := 6 }), u 0, u 1, u 2, u 3, u 4, u 5, u 6, u 7, u 8, undef, undef, undef, undef, undef, undef, undef, undef], []⟩)
    (RInv w k0 (k0 + 1) kr [.int .i64 src, .int .i64 dst, .int .i64 sp, .int .i64 dp, .int .u32 (seq : Int), .int .u32 (ack : Int), .int .i64 fl, .int .i64 wn, .int .i64 pr, .int .i64 og, .slice A n c] [.int .i64 dst, .int .i64 src, .int .i64 dp, .int .i64 sp, .int .u32 0, .int .u32 0, .int .i64 10, .int .i64 0, .int .i64 0, .int .i64 0, .slice none 0 0] (.int .u32 (KA : Int)) 9) (fun j => [undef, undef, undef, undef, undef, undef, undef, undef, undef, undef].getD j undef) (by kernel_rfl) (by kernel_rfl) (by kernel_rfl) rfl (RInv.start HB5.out HP5.out HZ5.out HR5.out) ?_ ?_
  · refine ⟨?_, ?_, ?_, ?_, ?_, ?_, ?_, ?_, ?_, ?_, trivial⟩
    · intro bb u w2 hv hbi hC hF J K hJ hK
      have HV := Lib.hid hv
      have HF := Lib.hid hF
      have HC := Lib.hid hC
      have HBI := Lib.hid hbi
      clear hv hF hC hbi
      go_wp2
      exact hJ _ _ _ (HV.out.step (by decide)) (rfl) (by simp [setU] <;> omega)
    · intro bb u w2 hv hbi hC hF J K hJ hK
      have HV := Lib.hid hv
      have HF := Lib.hid hF
      have HC := Lib.hid hC
      have HBI := Lib.hid hbi
      clear hv hF hC hbi
      have f0 : u 0 = .pointer (some ⟨k0, 4, none⟩) := (HF.out 0 (by decide)).2
      have c4 : w2.cell? ⟨k0, 4, none⟩ = some (.int .u32 (seq : Int)) := HV.out.2.1.cell rfl
      go_wp2
      exact hJ _ _ _ (HV.out.step (by decide)) (rfl) (by simp [setU, f0] <;> omega)
    · intro bb u w2 hv hbi hC hF J K hJ hK
      have HV := Lib.hid hv
      have HF := Lib.hid hF
      have HC := Lib.hid hC
      have HBI := Lib.hid hbi
      clear hv hF hC hbi
      have f1 : u 1 = .int .u32 (seq : Int) := (HF.out 1 (by decide)).2
      have e15 : IntKind.i64.wrap (seq : Int) = (seq : Int) := IntWalk.i64_in _ (by have := HSQ.out; omega)
      go_wp2
      exact hJ _ _ _ (HV.out.step (by decide)) (rfl) (by simp [setU, f1] <;> omega)
    · intro bb u w2 hv hbi hC hF J K hJ hK
      have HV := Lib.hid hv
      have HF := Lib.hid hF
      have HC := Lib.hid hC
      have HBI := Lib.hid hbi
      clear hv hF hC hbi
      have HPP := Lib.hid HV.out.2.1
      dsimp only
      go_wp2_with ((with_reducible refine (?_ : wpList _ _ _ [_] _ _)); refine wpList_load_row rfl 32 _ rfl k0 rfl 32 ([.int .i64 src, .int .i64 dst, .int .i64 sp, .int .i64 dp, .int .u32 (seq : Int), .int .u32 (ack : Int), .int .i64 fl, .int .i64 wn, .int .i64 pr, .int .i64 og, .slice A n c] : List Value).toArray (0, 0) _ HPP.out Try.underlying32 rfl (infoP _ rfl) ?_)
      exact hJ _ _ _ (HV.out.step (by decide)) (rfl) (by simp [setU] <;> omega)
    · intro bb u w2 hv hbi hC hF J K hJ hK
      have HV := Lib.hid hv
      have HF := Lib.hid hF
      have HC := Lib.hid hC
      have HBI := Lib.hid hbi
      clear hv hF hC hbi
      have f3 : u 3 = .agg ([.int .i64 src, .int .i64 dst, .int .i64 sp, .int .i64 dp, .int .u32 (seq : Int), .int .u32 (ack : Int), .int .i64 fl, .int .i64 wn, .int .i64 pr, .int .i64 og, .slice A n c] : List Value).toArray := (HF.out 3 (by decide)).2
      go_wp2_with fail
      refine (HTK.out w2).mono ?_
      rintro e w4 ⟨rfl, hb4⟩
      have HB4 := Lib.hid hb4
      clear hb4
      go_wp2
      exact hJ _ _ _ ((HV.out.ext HB4.out).step (by decide)) (rfl) (by simp [setU, f3] <;> omega)
    · intro bb u w2 hv hbi hC hF J K hJ hK
      have HV := Lib.hid hv
      have HF := Lib.hid hF
      have HC := Lib.hid hC
      have HBI := Lib.hid hbi
      clear hv hF hC hbi
      have f2 : u 2 = .int .i64 (seq : Int) := (HF.out 2 (by decide)).2
      have f4 : u 4 = .int .i64 (T : Int) := (HF.out 4 (by decide)).2
      have hsq := HSQ.out
      go_wp2
      exact hJ _ _ _ (HV.out.step (by decide)) (rfl) (by simp [setU, f2, f4] <;> omega)
    · intro bb u w2 hv hbi hC hF J K hJ hK
      have HV := Lib.hid hv
      have HF := Lib.hid hF
      have HC := Lib.hid hC
      have HBI := Lib.hid hbi
      clear hv hF hC hbi
      have f5 : u 5 = .int .i64 ((seq : Int) + (T : Int)) := (HF.out 5 (by decide)).2
      have e19 := HKM.out
      have hsq := HSQ.out
      go_wp2
      exact hJ _ _ _ (HV.out.step (by decide)) (rfl) (by simp [setU, f5] <;> omega)
    · intro bb u w2 hv hbi hC hF J K hJ hK
      have HV := Lib.hid hv
      have HF := Lib.hid hF
      have HC := Lib.hid hC
      have HBI := Lib.hid hbi
      clear hv hF hC hbi
      have f6 : u 6 = .int .i64 (KA : Int) := (HF.out 6 (by decide)).2
      have e20 : IntKind.u32.wrap (KA : Int) = (KA : Int) := IntWalk.u32_in _ (by have := HK32.out; omega)
      go_wp2
      exact hJ _ _ _ (HV.out.step (by decide)) (rfl) (by simp [setU, f6] <;> omega)
    · intro bb u w2 hv hbi hC hF J K hJ hK
      have HV := Lib.hid hv
      have HF := Lib.hid hF
      have HC := Lib.hid hC
      have HBI := Lib.hid hbi
      clear hv hF hC hbi
      go_wp2
      exact hJ _ _ _ (HV.out.step (by decide)) (rfl) (by simp [setU] <;> omega)
    · intro bb u w2 hv hbi hC hF J K hJ hK
      have HV := Lib.hid hv
      have HF := Lib.hid hF
      have HC := Lib.hid hC
      have HBI := Lib.hid hbi
      clear hv hF hC hbi
      have f7 : u 7 = .int .u32 (KA : Int) := (HF.out 7 (by decide)).2
      have f8 : u 8 = .pointer (some ⟨kr, 5, none⟩) := (HF.out 8 (by decide)).2
      have k5 : w2.cell? ⟨kr, 5, none⟩ = some (.int .u32 0) := (HV.out.mid HBI.out).cell rfl
      have g5 := (HV.out.mid HBI.out).frozen 5
      go_wp2
      exact hJ undef _ _ (HV.out.put HBI.out (by omega) (by omega) (by rw [HK0.out]; omega)) (trivial) (by simp [setU, f7, f8] <;> omega)
  · intro bb u w2 hb hv hF
    have HV := Lib.hid hv
    have HBB := Lib.hid hb
    clear hv hb hF
    have HR6 := Lib.hid (HV.out.done (HBB.out 9 (by decide)))
    have HP6 := Lib.hid HV.out.2.1
    have HZ6 := Lib.hid HV.out.2.2.1
    have HB6 := Lib.hid HV.out.1
    have c6 : w2.cell? ⟨k0, 6, none⟩ = some (.int .i64 fl) := HP6.out.cell rfl
    rcases fbit2 fl with h2 | h2
    · have HR7 : Hid (BK w2 kr 32 [.int .i64 dst, .int .i64 src, .int .i64 dp, .int .i64 sp, .int .u32 0, .int .u32 (KA : Int), .int .i64 10, .int .i64 0, .int .i64 0, .int .i64 0, .slice none 0 0]) := HR6
      have HZ7 := HZ6
      have HB7 := HB6
      go_wp2_with first | ((with_reducible refine (?_ : wpList _ _ _ (_ :: _) _ _)); refine wpList_load_row rfl 32 _ rfl kr rfl 32 ([.int .i64 dst, .int .i64 src, .int .i64 dp, .int .i64 sp, .int .u32 0, .int .u32 (KA : Int), .int .i64 10, .int .i64 0, .int .i64 0, .int .i64 0, .slice none 0 0] : List Value).toArray (0, 0) _ HR7.out Try.underlying32 rfl (infoP _ rfl) ?_) | ((with_reducible refine (?_ : wpList _ _ _ (_ :: _) _ _)); refine wpList_store_bk rfl 32 _ _ rfl (k0 + 1) [.int .i64 dst, .int .i64 src, .int .i64 dp, .int .i64 sp, .int .u32 0, .int .u32 (KA : Int), .int .i64 10, .int .i64 0, .int .i64 0, .int .i64 0, .slice none 0 0] rfl rfl 32 _ HZ7.out (infoP _ rfl) rfl (by simp [Value.oneCell']) ?_)
      intro w8 hk8 hg8 _
      have HK8 := Lib.hid hk8
      have HB8 := Lib.hid (below_grown HB7.out hg8 (by have := HB7.out.size; omega) (by rw [HK0.out]; omega))
      clear hk8 hg8
      go_wp2_with fail
      refine bodyPost_ret (results_ct rfl _ _ (k0 + 1) 32 _ (0, 0) _ rfl HK8.out Try.underlying32 rfl (infoP _ rfl)) rfl ?_
      refine ⟨?_, HB8.out⟩
      rw [← HC.out, HKN.out]
      simp [h2]
    · have c5 : w2.cell? ⟨k0, 5, none⟩ = some (.int .u32 (ack : Int)) := HP6.out.cell rfl
      have k4 : w2.cell? ⟨kr, 4, none⟩ = some (.int .u32 0) := HR6.out.cell rfl
      have g4 := HR6.out.frozen 4
      have hg7 := grown_setCell w2 kr 4 (.int .u32 (ack : Int))
      have HR7 : Hid (BK (w2.setCell ⟨kr, 4, none⟩ (.int .u32 (ack : Int))) kr 32 [.int .i64 dst, .int .i64 src, .int .i64 dp, .int .i64 sp, .int .u32 (ack : Int), .int .u32 (KA : Int), .int .i64 10, .int .i64 0, .int .i64 0, .int .i64 0, .slice none 0 0]) := Lib.hid (HR6.out.set 4 _)
      have HZ7 := Lib.hid (HZ6.out.same (hg7.block (k0 + 1) HZ6.out.lt (fun e => by have := Option.some.inj e; omega)))
      have HB7 := Lib.hid (below_grown HB6.out hg7 (by have := HB6.out.size; omega) (by rw [HK0.out]; omega))
      clear hg7
      go_upto_region 8 with fail
      clear c5 c6 k4 g4
      generalize w2.setCell ⟨kr, 4, none⟩ (.int .u32 (ack : Int)) = w7 at *
      go_wp2_with first | ((with_reducible refine (?_ : wpList _ _ _ (_ :: _) _ _)); refine wpList_load_row rfl 32 _ rfl kr rfl 32 ([.int .i64 dst, .int .i64 src, .int .i64 dp, .int .i64 sp, .int .u32 (ack : Int), .int .u32 (KA : Int), .int .i64 10, .int .i64 0, .int .i64 0, .int .i64 0, .slice none 0 0] : List Value).toArray (0, 0) _ HR7.out Try.underlying32 rfl (infoP _ rfl) ?_) | ((with_reducible refine (?_ : wpList _ _ _ (_ :: _) _ _)); refine wpList_store_bk rfl 32 _ _ rfl (k0 + 1) [.int .i64 dst, .int .i64 src, .int .i64 dp, .int .i64 sp, .int .u32 (ack : Int), .int .u32 (KA : Int), .int .i64 10, .int .i64 0, .int .i64 0, .int .i64 0, .slice none 0 0] rfl rfl 32 _ HZ7.out (infoP _ rfl) rfl (by simp [Value.oneCell']) ?_)
      intro w8 hk8 hg8 _
      have HK8 := Lib.hid hk8
      have HB8 := Lib.hid (below_grown HB7.out hg8 (by have := HB7.out.size; omega) (by rw [HK0.out]; omega))
      clear hk8 hg8
      go_wp2_with fail
      refine bodyPost_ret (results_ct rfl _ _ (k0 + 1) 32 _ (0, 0) _ rfl HK8.out Try.underlying32 rfl (infoP _ rfl)) rfl ?_
      refine ⟨?_, HB8.out⟩
      rw [← HC.out, HKN.out]
      simp [h2]
end Go.Proofs.Ytjhnnnklfhbebaa
