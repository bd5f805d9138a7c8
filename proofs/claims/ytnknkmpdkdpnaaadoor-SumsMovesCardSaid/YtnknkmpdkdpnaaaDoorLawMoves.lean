/- The walk of the law SumsMoves. -/
import Derived.Test.YtnknkmpdkdpnaaaDoorLawHolds
import Derived.Test.YtnknkmpdkdpnaaaDoorAny
import Derived.Deep.QuietTactic
import Derived.BigQuiet
import Derived.BigRegion
namespace Go.Proofs.YtnknkmpdkdpnaaaDoor
open Go.RowKit
set_option linter.unusedVariables false

/-- What the row holds, by the stores that have been carried out. -/
def movesCont (l : List UInt8) (p q : Nat) (y0 y1 y2 y3 : UInt8) (b : Nat → Bool) : List UInt8 :=
  let l1 := bif b 19 then l.set p y2 else l
  let l2 := bif b 21 then l1.set (p + 1) y3 else l1
  let l3 := bif b 23 then l2.set q y0 else l2
  bif b 25 then l3.set (q + 1) y1 else l3
theorem movesCont_length (l : List UInt8) (p q : Nat) (y0 y1 y2 y3 : UInt8) (b : Nat → Bool) : (movesCont l p q y0 y1 y2 y3 b).length = l.length := by
  unfold movesCont
  cases b 19 <;> cases b 21 <;> cases b 23 <;> cases b 25 <;> simp
def MovesInv (E : TypeId) (w : World) (g m c1 gy : Nat) (l : List UInt8) (p q : Nat) (y0 y1 y2 y3 : UInt8) (b : Nat → Bool) (w2 : World) : Prop :=
  OwnB w.heap.size E w2 (.slice (some ⟨g, 0, none⟩) m c1) (movesCont l p q y0 y1 y2 y3 b) ∧ Below w.heap.size w w2 ∧ w2.cell? ⟨gy, 0, none⟩ = some (.int .u8 (y0.toNat : Int)) ∧ w2.cell? ⟨gy, 1, none⟩ = some (.int .u8 (y1.toNat : Int)) ∧
    w2.cell? ⟨gy, 2, none⟩ = some (.int .u8 (y2.toNat : Int)) ∧ w2.cell? ⟨gy, 3, none⟩ = some (.int .u8 (y3.toNat : Int))
theorem cell_aside {w : World} {g gy i j : Nat} {u v : Value} (hne : ¬ gy = g) (h : w.cell? ⟨gy, i, none⟩ = some v) : (w.setCell ⟨g, j, none⟩ u).cell? ⟨gy, i, none⟩ = some v :=
  (World.cell?_of_block (w := w) (Below.heap_setCell w ⟨g, j, none⟩ u gy hne)).trans h
theorem moves_store19 {E : TypeId} {w : World} {g m c1 gy : Nat} {l : List UInt8} {p q : Nat} {y0 y1 y2 y3 : UInt8} {b : Nat → Bool} {w2 : World} (h : MovesInv E w g m c1 gy l p q y0 y1 y2 y3 b w2) (h19 : b 19 = false) (h21 : b 21 = false) (h23 : b 23 = false) (h25 : b 25 = false) (hg : w.heap.size ≤ g) (hne : ¬ gy = g) :
    MovesInv E w g m c1 gy l p q y0 y1 y2 y3 (upd b 19) (w2.setCell ⟨g, p, none⟩ (.int .u8 (y2.toNat : Int))) := by
  obtain ⟨ho, hb, k0, k1, k2, k3⟩ := h
  refine ⟨?_, hb.setCell (p := ⟨g, _, none⟩) hg _, cell_aside hne k0, cell_aside hne k1, cell_aside hne k2, cell_aside hne k3⟩
  have k := ho.set (p) y2
  unfold movesCont at k ⊢
  simp only [upd, h19, h21, h23, h25, cond_false] at k ⊢
  simpa using k
theorem moves_store21 {E : TypeId} {w : World} {g m c1 gy : Nat} {l : List UInt8} {p q : Nat} {y0 y1 y2 y3 : UInt8} {b : Nat → Bool} {w2 : World} (h : MovesInv E w g m c1 gy l p q y0 y1 y2 y3 b w2) (h19 : b 19 = true) (h21 : b 21 = false) (h23 : b 23 = false) (h25 : b 25 = false) (hg : w.heap.size ≤ g) (hne : ¬ gy = g) :
    MovesInv E w g m c1 gy l p q y0 y1 y2 y3 (upd b 21) (w2.setCell ⟨g, p + 1, none⟩ (.int .u8 (y3.toNat : Int))) := by
  obtain ⟨ho, hb, k0, k1, k2, k3⟩ := h
  refine ⟨?_, hb.setCell (p := ⟨g, _, none⟩) hg _, cell_aside hne k0, cell_aside hne k1, cell_aside hne k2, cell_aside hne k3⟩
  have k := ho.set (p + 1) y3
  unfold movesCont at k ⊢
  simp only [upd, h19, h21, h23, h25, cond_false] at k ⊢
  simpa using k
theorem moves_store23 {E : TypeId} {w : World} {g m c1 gy : Nat} {l : List UInt8} {p q : Nat} {y0 y1 y2 y3 : UInt8} {b : Nat → Bool} {w2 : World} (h : MovesInv E w g m c1 gy l p q y0 y1 y2 y3 b w2) (h19 : b 19 = true) (h21 : b 21 = true) (h23 : b 23 = false) (h25 : b 25 = false) (hg : w.heap.size ≤ g) (hne : ¬ gy = g) :
    MovesInv E w g m c1 gy l p q y0 y1 y2 y3 (upd b 23) (w2.setCell ⟨g, q, none⟩ (.int .u8 (y0.toNat : Int))) := by
  obtain ⟨ho, hb, k0, k1, k2, k3⟩ := h
  refine ⟨?_, hb.setCell (p := ⟨g, _, none⟩) hg _, cell_aside hne k0, cell_aside hne k1, cell_aside hne k2, cell_aside hne k3⟩
  have k := ho.set (q) y0
  unfold movesCont at k ⊢
  simp only [upd, h19, h21, h23, h25, cond_false] at k ⊢
  simpa using k
theorem moves_store25 {E : TypeId} {w : World} {g m c1 gy : Nat} {l : List UInt8} {p q : Nat} {y0 y1 y2 y3 : UInt8} {b : Nat → Bool} {w2 : World} (h : MovesInv E w g m c1 gy l p q y0 y1 y2 y3 b w2) (h19 : b 19 = true) (h21 : b 21 = true) (h23 : b 23 = true) (h25 : b 25 = false) (hg : w.heap.size ≤ g) (hne : ¬ gy = g) :
    MovesInv E w g m c1 gy l p q y0 y1 y2 y3 (upd b 25) (w2.setCell ⟨g, q + 1, none⟩ (.int .u8 (y1.toNat : Int))) := by
  obtain ⟨ho, hb, k0, k1, k2, k3⟩ := h
  refine ⟨?_, hb.setCell (p := ⟨g, _, none⟩) hg _, cell_aside hne k0, cell_aside hne k1, cell_aside hne k2, cell_aside hne k3⟩
  have k := ho.set (q + 1) y1
  unfold movesCont at k ⊢
  simp only [upd, h19, h21, h23, h25, cond_false] at k ⊢
  simpa using k

set_option maxRecDepth 4000 in
set_option maxHeartbeats 4000000 in
theorem moves_walk (w : World) (hN : Nib w) (A : Option Addr) (c : Nat) (b : List UInt8) (h : RB w A b) (hc : b.length ≤ c) (hl : b.length ≤ 140737488351232)
    (B : Option Addr) (d : Nat) (t : List Int) (h2 : RZ w B t) (hd : t.length ≤ d) (hl2 : t.length ≤ 17592186043904) (hz : ∀ i, -9223372036854775808 ≤ t.getD i 0 ∧ t.getD i 0 ≤ 9223372036854775807) :
    Calls Tryd.prog 6 #[.slice A b.length c, .slice B t.length d] w fun e w' => e = .returned (.bool true) ∧ Below w.heap.size w w' := by
  have H := Lib.hid h
  have H2 := Lib.hid h2
  have HN := Lib.hid hN
  have HZ := Lib.hid hz
  clear h hN h2 hz
  by_cases hs : 65536 < b.length
  · go_enter Tryd.func6, Tryd.ntmps6
    go_wp2_with fail
    refine (awake_calls _ HN.out).mono ?_
    rintro e w2 ⟨rfl, hb⟩
    have HB := Lib.hid hb
    clear hb
    go_wp2
    go_ret
    exact ⟨rfl, HB.out⟩
  · by_cases hs2 : 1000 < t.length
    · go_enter Tryd.func6, Tryd.ntmps6
      go_wp2_with fail
      refine (awake_calls _ HN.out).mono ?_
      rintro e w2 ⟨rfl, hb⟩
      have HB := Lib.hid hb
      clear hb
      go_wp2
      go_ret
      exact ⟨rfl, HB.out⟩
    · obtain ⟨half, hh⟩ : ∃ k, b.length / 2 = k := ⟨_, rfl⟩
      obtain ⟨m, hm⟩ : ∃ m, half * 2 = m := ⟨_, rfl⟩
      have hquo : (b.length : Int).tdiv 2 = (half : Int) := by rw [Int.tdiv_eq_ediv_of_nonneg (by omega)]; omega
      have hmul : (half : Int) * 2 = (m : Int) := by omega
      have hquo2 : (m : Int).tdiv 2 = (half : Int) := by rw [Int.tdiv_eq_ediv_of_nonneg (by omega)]; omega
      have hmb : m ≤ b.length := by omega
      have hm2 : m ≤ 65536 := by omega
      have hmm : 2 * half = m := by omega
      have HH := Lib.hid hh
      clear hh hm
      have LT : Hid ((b.take m).length = m) := by show _ = _; rw [List.length_take]; omega
      have k1 := clone_calls A c (b.take m) w (H.out.take m) (by rw [LT.out]; omega)
      rw [LT.out] at k1
      have K1 := Lib.hid k1
      clear k1
      go_enter Tryd.func6, Tryd.ntmps6
      go_wp2_with fail
      refine K1.out.mono ?_
      rintro e w1 ⟨v1, rfl, ho1, hb1⟩
      obtain ⟨A1, c1, rfl, hr1, hc1, hcm⟩ := ho1.form
      rw [LT.out] at ho1 hc1
      rw [LT.out]
      have HO1 := Lib.hid ho1
      have HB1 := Lib.hid hb1
      clear ho1 hb1 hr1
      go_wp2_with fail
      go_loopw [29] (fun i wr => ∃ k : Nat, k ≤ t.length ∧ i = .int .i64 k ∧ ∃ l, Hid (OwnB w.heap.size 5 wr (.slice A1 m c1) l) ∧ Hid (l.length = m) ∧ Hid (wordsTo l l.length = wordsTo (b.take m) (b.take m).length) ∧ Hid (Below w.heap.size w wr)) (fun i _ => t.length - (intOf i).toNat)
      case atStart => exact ⟨0, Nat.zero_le _, rfl, _, HO1, LT, Lib.hid rfl, HB1⟩
      case round =>
        obtain ⟨k, hk, rfl, l, HO, HL, HW, HB⟩ := hrel
        by_cases h1 : k < t.length
        · obtain ⟨b2, o2, rfl, hc2⟩ := (H2.out.ext HB.out) k h1
          obtain ⟨z, hz⟩ : ∃ z, t.getD k 0 = z := ⟨_, rfl⟩
          obtain ⟨hz0, hz1⟩ := HZ.out k
          rw [hz] at hc2 hz0 hz1
          clear hz
          by_cases h2 : 0 < m
          · obtain ⟨g, cc, e2, hg1, hg2, _, _⟩ := HO.out.block (by rw [HL.out]; exact h2)
            injection e2 with ea eb ec
            subst ea ec
            clear eb
            have hh0 : 0 < half := by omega
            obtain ⟨n, hn, _⟩ := u64_some z
            obtain ⟨p0, hp0, hp1⟩ : ∃ j : Nat, (k : Int).tmod (half : Int) = j ∧ j < half := ⟨k % half, tmod_nat k half, Nat.mod_lt _ hh0⟩
            obtain ⟨q0, hq0, hq1⟩ : ∃ j : Nat, (n : Int).tmod (half : Int) = j ∧ j < half := ⟨n % half, tmod_nat n half, Nat.mod_lt _ hh0⟩
            obtain ⟨p, hp⟩ : ∃ p, 2 * p0 = p := ⟨_, rfl⟩
            obtain ⟨q, hq⟩ : ∃ q, 2 * q0 = q := ⟨_, rfl⟩
            have hp2 : 2 * (p0 : Int) = (p : Int) := by omega
            have hq2 : 2 * (q0 : Int) = (q : Int) := by omega
            have hpm : p + 1 < m := by omega
            have hqm : q + 1 < m := by omega
            have HP := Lib.hid hp
            have HQ := Lib.hid hq
            clear hp hq
            go_wp2_with fail
            go_quiet (fail)
            have HO2 := Lib.hid (HO.out.ext (ext_drewN (Below.refl _ _) nq))
            have HB2 := Lib.hid (ext_drewN HB.out nq)
            have hg3 : g < (wr.drewN nq).heap.size := hg2
            clear hc2 HB HO hg2
            generalize wr.drewN nq = w2 at *
            obtain ⟨hc0, hf0⟩ := HO2.out.cell p (by rw [HL.out]; omega)
            obtain ⟨hc1', hf1⟩ := HO2.out.cell (p + 1) (by rw [HL.out]; omega)
            obtain ⟨hc2, hf2⟩ := HO2.out.cell q (by rw [HL.out]; omega)
            obtain ⟨hc3, hf3⟩ := HO2.out.cell (q + 1) (by rw [HL.out]; omega)
            unfold gb at hc0 hc1' hc2 hc3
            obtain ⟨y0, hy0⟩ : ∃ y, l.getD p 0 = y := ⟨_, rfl⟩
            obtain ⟨y1, hy1⟩ : ∃ y, l.getD (p + 1) 0 = y := ⟨_, rfl⟩
            obtain ⟨y2, hy2⟩ : ∃ y, l.getD q 0 = y := ⟨_, rfl⟩
            obtain ⟨y3, hy3⟩ : ∃ y, l.getD (q + 1) 0 = y := ⟨_, rfl⟩
            rw [hy0] at hc0
            rw [hy1] at hc1'
            rw [hy2] at hc2
            rw [hy3] at hc3
            have HS : Hid (setWord (setWord l p0 y2 y3) q0 y0 y1 = swapW l p0 q0) := by
              show _ = _
              unfold swapW
              rw [HP.out, HQ.out, hy0, hy1, hy2, hy3]
            clear hy0 hy1 hy2 hy3
            have hi0 : (0 : Int) ≤ p := by omega
            have him : (p : Int) < m := by omega
            have him1 : (p : Int) + 1 < m := by omega
            have hi01 : (0 : Int) ≤ (p : Int) + 1 := by omega
            have hiw : IntKind.i64.wrap ((p : Int) + 1) = (p : Int) + 1 := by rw [IntKind.wrap]; simp [IntKind.bits, IntKind.signed]; omega
            have hit : ((p : Int) + 1).toNat = p + 1 := by omega
            have hj0 : (0 : Int) ≤ q := by omega
            have hjm : (q : Int) < m := by omega
            have hjm1 : (q : Int) + 1 < m := by omega
            have hj01 : (0 : Int) ≤ (q : Int) + 1 := by omega
            have hjw : IntKind.i64.wrap ((q : Int) + 1) = (q : Int) + 1 := by rw [IntKind.wrap]; simp [IntKind.bits, IntKind.signed]; omega
            have hjt : ((q : Int) + 1).toNat = q + 1 := by omega
            go_wp2_with fail
            go_region
            have hw3 : (w2.alloc (Obj.cells #[Value.int IntKind.u8 (y0.toNat : Int), Value.int IntKind.u8 (y1.toNat : Int), Value.int IntKind.u8 (y2.toNat : Int), Value.int IntKind.u8 (y3.toNat : Int)] 38)).drew.heap.size = w2.heap.size + 1 := by simp
            have HO3 := Lib.hid (HO2.out.ext (ext_alloc w2 (Obj.cells #[Value.int IntKind.u8 (y0.toNat : Int), Value.int IntKind.u8 (y1.toNat : Int), Value.int IntKind.u8 (y2.toNat : Int), Value.int IntKind.u8 (y3.toNat : Int)] 38)).drew)
            have HB3 := Lib.hid (ext_trans HB2.out (ext_alloc w2 (Obj.cells #[Value.int IntKind.u8 (y0.toNat : Int), Value.int IntKind.u8 (y1.toNat : Int), Value.int IntKind.u8 (y2.toNat : Int), Value.int IntKind.u8 (y3.toNat : Int)] 38)).drew)
            have hblk : (w2.alloc (Obj.cells #[Value.int IntKind.u8 (y0.toNat : Int), Value.int IntKind.u8 (y1.toNat : Int), Value.int IntKind.u8 (y2.toNat : Int), Value.int IntKind.u8 (y3.toNat : Int)] 38)).drew.heap[w2.heap.size]? = some (.cells #[Value.int IntKind.u8 (y0.toNat : Int), Value.int IntKind.u8 (y1.toNat : Int), Value.int IntKind.u8 (y2.toNat : Int), Value.int IntKind.u8 (y3.toNat : Int)] 38) := heap_new _ _ rfl
            clear hc0 hf0 hc1' hf1 hc2 hf2 hc3 hf3
            generalize (w2.alloc (Obj.cells #[Value.int IntKind.u8 (y0.toNat : Int), Value.int IntKind.u8 (y1.toNat : Int), Value.int IntKind.u8 (y2.toNat : Int), Value.int IntKind.u8 (y3.toNat : Int)] 38)).drew = w3 at *
            obtain ⟨gy, hgy⟩ : ∃ g, w2.heap.size = g := ⟨_, rfl⟩
            rw [hgy] at hblk hg3 hw3
            rw [hgy]
            have hk0 : w3.cell? ⟨gy, 0, none⟩ = some (.int .u8 (y0.toNat : Int)) := by simp [World.cell?, hblk]
            have hk1 : w3.cell? ⟨gy, 1, none⟩ = some (.int .u8 (y1.toNat : Int)) := by simp [World.cell?, hblk]
            have hk2 : w3.cell? ⟨gy, 2, none⟩ = some (.int .u8 (y2.toNat : Int)) := by simp [World.cell?, hblk]
            have hk3 : w3.cell? ⟨gy, 3, none⟩ = some (.int .u8 (y3.toNat : Int)) := by simp [World.cell?, hblk]
            have hne : ¬ g = gy := by omega
            have hne' : ¬ gy = g := by omega
            clear hblk hgy
            obtain ⟨hc0, hf0⟩ := HO3.out.cell p (by rw [HL.out]; omega)
            obtain ⟨hc1', hf1⟩ := HO3.out.cell (p + 1) (by rw [HL.out]; omega)
            obtain ⟨hc2, hf2⟩ := HO3.out.cell q (by rw [HL.out]; omega)
            obtain ⟨hc3, hf3⟩ := HO3.out.cell (q + 1) (by rw [HL.out]; omega)
            have hsw : Hid (wordsTo (swapW l p0 q0) (swapW l p0 q0).length = wordsTo (b.take m) (b.take m).length) := by
              show _ = _
              rw [swapW_words l p0 q0 (by rw [HL.out]; omega) (by rw [HL.out]; omega), HW.out]
            have hsl : Hid ((swapW l p0 q0).length = m) := by show _ = _; rw [swapW_length, HL.out]
            go_wp2_with fail
            refine wp_region_inv [[], [], [], [], [3], [], [], [], [], [8], [], [10], [], [12], [], [14], [], [16], [0, 1, 10, 11], [0, 1, 10, 11, 18], [0, 1, 2, 3, 4, 10, 11, 12, 13, 18, 19], [0, 1, 2, 3, 4, 10, 11, 12, 13, 18, 19, 20], [0, 1, 2, 3, 4, 5, 6, 10, 11, 12, 13, 14, 15, 18, 19, 20, 21], [0, 1, 2, 3, 4, 5, 6, 10, 11, 12, 13, 14, 15, 18, 19, 20, 21, 22], [0, 1, 2, 3, 4, 5, 6, 7, 8, 9, 10, 11, 12, 13, 14, 15, 16, 17, 18, 19, 20, 21, 22, 23], [0, 1, 2, 3, 4, 5, 6, 7, 8, 9, 10, 11, 12, 13, 14, 15, 16, 17, 18, 19, 20, 21, 22, 23, 24]]
              [fun u => u = .slice (some ⟨g, 0, none⟩) m c1,
               fun u => u = .int .i64 (p : Int),
               fun u => u = .slice (some ⟨g, 0, none⟩) m c1,
               fun u => u = .int .i64 (p : Int),
               fun u => u = .int .i64 ((p : Int) + 1),
               fun u => u = .slice (some ⟨g, 0, none⟩) m c1,
               fun u => u = .int .i64 (q : Int),
               fun u => u = .slice (some ⟨g, 0, none⟩) m c1,
               fun u => u = .int .i64 (q : Int),
               fun u => u = .int .i64 ((q : Int) + 1),
               fun u => u = .pointer (some ⟨gy, 2, none⟩),
               fun u => u = .int .u8 (y2.toNat : Int),
               fun u => u = .pointer (some ⟨gy, 3, none⟩),
               fun u => u = .int .u8 (y3.toNat : Int),
               fun u => u = .pointer (some ⟨gy, 0, none⟩),
               fun u => u = .int .u8 (y0.toNat : Int),
               fun u => u = .pointer (some ⟨gy, 1, none⟩),
               fun u => u = .int .u8 (y1.toNat : Int),
               fun u => u = .pointer (some ⟨g, p, none⟩),
               fun _ => True,
               fun u => u = .pointer (some ⟨g, p + 1, none⟩),
               fun _ => True,
               fun u => u = .pointer (some ⟨g, q, none⟩),
               fun _ => True,
               fun u => u = .pointer (some ⟨g, q + 1, none⟩),
               fun _ => True]
              (fun u => ⟨#[Value.slice A b.length c, Value.slice (some { block := b2, off := o2 }) t.length d, undef, undef, Value.bool false, Value.slice (some { block := g, off := 0 }) m c1, Value.int IntKind.i64 (k : Int), Value.int IntKind.i64 z, Value.int IntKind.i64 (p : Int), Value.int IntKind.i64 (q : Int), Value.pointer (some { block := gy, off := 0 }), Value.slice A b.length c, Value.int IntKind.i64 (b.length : Int), Value.bool (decide (65536 < (b.length : Int))), Value.bool (decide (65536 < (b.length : Int))), Value.slice (some { block := b2, off := o2 }) t.length d, Value.int IntKind.i64 (t.length : Int), Value.bool (decide (1000 < (t.length : Int))), Value.bool (decide (65536 < (b.length : Int)) || decide (1000 < (t.length : Int))), undef, Value.slice A b.length c, Value.slice A b.length c, Value.int IntKind.i64 (b.length : Int), Value.int IntKind.i64 (half : Int), Value.int IntKind.i64 (m : Int), Value.slice A m c, Value.slice (some { block := g, off := 0 }) m c1, Value.slice (some { block := b2, off := o2 }) t.length d, Value.int IntKind.i64 (t.length : Int), Value.int IntKind.i64 (k : Int), Value.bool true, Value.int IntKind.i64 (k : Int), Value.pointer (some { block := b2, off := o2 + k }), Value.int IntKind.i64 z, Value.slice (some { block := g, off := 0 }) m c1, Value.int IntKind.i64 (m : Int), Value.bool true, Value.int IntKind.i64 (k : Int), Value.slice (some { block := g, off := 0 }) m c1, Value.int IntKind.i64 (m : Int), Value.int IntKind.i64 (half : Int), Value.int IntKind.i64 (p0 : Int), Value.int IntKind.i64 (p : Int), Value.int IntKind.i64 z, Value.int IntKind.u64 (n : Int), Value.slice (some { block := g, off := 0 }) m c1, Value.int IntKind.i64 (m : Int), Value.int IntKind.i64 (half : Int), Value.int IntKind.u64 (half : Int), Value.int IntKind.u64 (q0 : Int), Value.int IntKind.i64 (q0 : Int), Value.int IntKind.i64 (q : Int), Value.slice (some { block := g, off := 0 }) m c1, Value.int IntKind.i64 (p : Int), Value.pointer (some { block := g, off := p }), Value.int IntKind.u8 (y0.toNat : Int), Value.slice (some { block := g, off := 0 }) m c1, Value.int IntKind.i64 (p : Int), Value.int IntKind.i64 ((p : Int) + 1), Value.pointer (some { block := g, off := p + 1 }), Value.int IntKind.u8 (y1.toNat : Int), Value.slice (some { block := g, off := 0 }) m c1, Value.int IntKind.i64 (q : Int), Value.pointer (some { block := g, off := q }), Value.int IntKind.u8 (y2.toNat : Int), Value.slice (some { block := g, off := 0 }) m c1, Value.int IntKind.i64 (q : Int), Value.int IntKind.i64 ((q : Int) + 1), Value.pointer (some { block := g, off := q + 1 }), Value.int IntKind.u8 (y3.toNat : Int), Value.agg #[Value.int IntKind.u8 (y0.toNat : Int), Value.int IntKind.u8 (y1.toNat : Int), Value.int IntKind.u8 (y2.toNat : Int), Value.int IntKind.u8 (y3.toNat : Int)], u 0, u 1, u 2, u 3, u 4, u 5, u 6, u 7, u 8, u 9, u 10, u 11, u 12, u 13, u 14, u 15, u 16, u 17, u 18, u 20, u 22, u 24, u93, undef, undef, undef, undef, undef, undef, undef, undef, undef, undef, undef, undef, undef, undef, undef], []⟩)
              (MovesInv 5 w g m c1 gy l p q y0 y1 y2 y3) (fun j => [u71, u72, u73, u74, u75, u76, u77, u78, u79, u80, u81, u82, u83, u84, u85, u86, u87, u88, u89, undef, u90, undef, u91, undef, u92, undef].getD j undef) (by kernel_rfl) (by kernel_rfl) (by kernel_rfl) rfl (⟨HO3.out.ext (Below.refl _ _).drew, HB3.out.drew, hk0, hk1, hk2, hk3⟩) ?_ ?_
            · refine ⟨?_, ?_, ?_, ?_, ?_, ?_, ?_, ?_, ?_, ?_, ?_, ?_, ?_, ?_, ?_, ?_, ?_, ?_, ?_, ?_, ?_, ?_, ?_, ?_, ?_, ?_, trivial⟩
              · intro bb u w2 hv hbi hC hF J K hJ hK
                have HV := Lib.hid hv
                have HF := Lib.hid hF
                have HC := Lib.hid hC
                have HBI := Lib.hid hbi
                clear hv hF hC hbi
                go_wp2
                exact hJ _ _ _ (HV.out) (rfl) (by simp [setU])
              · intro bb u w2 hv hbi hC hF J K hJ hK
                have HV := Lib.hid hv
                have HF := Lib.hid hF
                have HC := Lib.hid hC
                have HBI := Lib.hid hbi
                clear hv hF hC hbi
                go_wp2
                exact hJ _ _ _ (HV.out) (rfl) (by simp [setU])
              · intro bb u w2 hv hbi hC hF J K hJ hK
                have HV := Lib.hid hv
                have HF := Lib.hid hF
                have HC := Lib.hid hC
                have HBI := Lib.hid hbi
                clear hv hF hC hbi
                go_wp2
                exact hJ _ _ _ (HV.out) (rfl) (by simp [setU])
              · intro bb u w2 hv hbi hC hF J K hJ hK
                have HV := Lib.hid hv
                have HF := Lib.hid hF
                have HC := Lib.hid hC
                have HBI := Lib.hid hbi
                clear hv hF hC hbi
                go_wp2
                exact hJ _ _ _ (HV.out) (rfl) (by simp [setU])
              · intro bb u w2 hv hbi hC hF J K hJ hK
                have HV := Lib.hid hv
                have HF := Lib.hid hF
                have HC := Lib.hid hC
                have HBI := Lib.hid hbi
                clear hv hF hC hbi
                have f3 : u 3 = .int .i64 (p : Int) := (HF.out 3 (by decide)).2
                go_wp2
                exact hJ _ _ _ (HV.out) (rfl) (by simp [setU, f3])
              · intro bb u w2 hv hbi hC hF J K hJ hK
                have HV := Lib.hid hv
                have HF := Lib.hid hF
                have HC := Lib.hid hC
                have HBI := Lib.hid hbi
                clear hv hF hC hbi
                go_wp2
                exact hJ _ _ _ (HV.out) (rfl) (by simp [setU])
              · intro bb u w2 hv hbi hC hF J K hJ hK
                have HV := Lib.hid hv
                have HF := Lib.hid hF
                have HC := Lib.hid hC
                have HBI := Lib.hid hbi
                clear hv hF hC hbi
                go_wp2
                exact hJ _ _ _ (HV.out) (rfl) (by simp [setU])
              · intro bb u w2 hv hbi hC hF J K hJ hK
                have HV := Lib.hid hv
                have HF := Lib.hid hF
                have HC := Lib.hid hC
                have HBI := Lib.hid hbi
                clear hv hF hC hbi
                go_wp2
                exact hJ _ _ _ (HV.out) (rfl) (by simp [setU])
              · intro bb u w2 hv hbi hC hF J K hJ hK
                have HV := Lib.hid hv
                have HF := Lib.hid hF
                have HC := Lib.hid hC
                have HBI := Lib.hid hbi
                clear hv hF hC hbi
                go_wp2
                exact hJ _ _ _ (HV.out) (rfl) (by simp [setU])
              · intro bb u w2 hv hbi hC hF J K hJ hK
                have HV := Lib.hid hv
                have HF := Lib.hid hF
                have HC := Lib.hid hC
                have HBI := Lib.hid hbi
                clear hv hF hC hbi
                have f8 : u 8 = .int .i64 (q : Int) := (HF.out 8 (by decide)).2
                go_wp2
                exact hJ _ _ _ (HV.out) (rfl) (by simp [setU, f8])
              · intro bb u w2 hv hbi hC hF J K hJ hK
                have HV := Lib.hid hv
                have HF := Lib.hid hF
                have HC := Lib.hid hC
                have HBI := Lib.hid hbi
                clear hv hF hC hbi
                go_wp2
                exact hJ _ _ _ (HV.out) (rfl) (by simp [setU])
              · intro bb u w2 hv hbi hC hF J K hJ hK
                have HV := Lib.hid hv
                have HF := Lib.hid hF
                have HC := Lib.hid hC
                have HBI := Lib.hid hbi
                clear hv hF hC hbi
                have f10 : u 10 = .pointer (some ⟨gy, 2, none⟩) := (HF.out 10 (by decide)).2
                obtain ⟨_, _, hk0, hk1, hk2, hk3⟩ := HV.out
                go_wp2
                exact hJ _ _ _ (HV.out) (rfl) (by simp [setU, f10])
              · intro bb u w2 hv hbi hC hF J K hJ hK
                have HV := Lib.hid hv
                have HF := Lib.hid hF
                have HC := Lib.hid hC
                have HBI := Lib.hid hbi
                clear hv hF hC hbi
                go_wp2
                exact hJ _ _ _ (HV.out) (rfl) (by simp [setU])
              · intro bb u w2 hv hbi hC hF J K hJ hK
                have HV := Lib.hid hv
                have HF := Lib.hid hF
                have HC := Lib.hid hC
                have HBI := Lib.hid hbi
                clear hv hF hC hbi
                have f12 : u 12 = .pointer (some ⟨gy, 3, none⟩) := (HF.out 12 (by decide)).2
                obtain ⟨_, _, hk0, hk1, hk2, hk3⟩ := HV.out
                go_wp2
                exact hJ _ _ _ (HV.out) (rfl) (by simp [setU, f12])
              · intro bb u w2 hv hbi hC hF J K hJ hK
                have HV := Lib.hid hv
                have HF := Lib.hid hF
                have HC := Lib.hid hC
                have HBI := Lib.hid hbi
                clear hv hF hC hbi
                go_wp2
                exact hJ _ _ _ (HV.out) (rfl) (by simp [setU])
              · intro bb u w2 hv hbi hC hF J K hJ hK
                have HV := Lib.hid hv
                have HF := Lib.hid hF
                have HC := Lib.hid hC
                have HBI := Lib.hid hbi
                clear hv hF hC hbi
                have f14 : u 14 = .pointer (some ⟨gy, 0, none⟩) := (HF.out 14 (by decide)).2
                obtain ⟨_, _, hk0, hk1, hk2, hk3⟩ := HV.out
                go_wp2
                exact hJ _ _ _ (HV.out) (rfl) (by simp [setU, f14])
              · intro bb u w2 hv hbi hC hF J K hJ hK
                have HV := Lib.hid hv
                have HF := Lib.hid hF
                have HC := Lib.hid hC
                have HBI := Lib.hid hbi
                clear hv hF hC hbi
                go_wp2
                exact hJ _ _ _ (HV.out) (rfl) (by simp [setU])
              · intro bb u w2 hv hbi hC hF J K hJ hK
                have HV := Lib.hid hv
                have HF := Lib.hid hF
                have HC := Lib.hid hC
                have HBI := Lib.hid hbi
                clear hv hF hC hbi
                have f16 : u 16 = .pointer (some ⟨gy, 1, none⟩) := (HF.out 16 (by decide)).2
                obtain ⟨_, _, hk0, hk1, hk2, hk3⟩ := HV.out
                go_wp2
                exact hJ _ _ _ (HV.out) (rfl) (by simp [setU, f16])
              · intro bb u w2 hv hbi hC hF J K hJ hK
                have HV := Lib.hid hv
                have HF := Lib.hid hF
                have HC := Lib.hid hC
                have HBI := Lib.hid hbi
                clear hv hF hC hbi
                have f0 : u 0 = .slice (some ⟨g, 0, none⟩) m c1 := (HF.out 0 (by decide)).2
                have f1 : u 1 = .int .i64 (p : Int) := (HF.out 1 (by decide)).2
                go_wp2
                exact hJ _ _ _ (HV.out) (rfl) (by simp [setU, f0, f1])
              · intro bb u w2 hv hbi hC hF J K hJ hK
                have HV := Lib.hid hv
                have HF := Lib.hid hF
                have HC := Lib.hid hC
                have HBI := Lib.hid hbi
                clear hv hF hC hbi
                have f11 : u 11 = .int .u8 (y2.toNat : Int) := (HF.out 11 (by decide)).2
                have f18 : u 18 = .pointer (some ⟨g, p, none⟩) := (HF.out 18 (by decide)).2
                have n21 : bb 21 = false := by cases h : bb 21 with | false => rfl | true => exact absurd (HC.out 21 19 (by decide) h) (by rw [HBI.out]; decide)
                have n23 : bb 23 = false := by cases h : bb 23 with | false => rfl | true => exact absurd (HC.out 23 19 (by decide) h) (by rw [HBI.out]; decide)
                have n25 : bb 25 = false := by cases h : bb 25 with | false => rfl | true => exact absurd (HC.out 25 19 (by decide) h) (by rw [HBI.out]; decide)
                have HN2 := Lib.hid (moves_store19 HV.out HBI.out n21 n23 n25 hg1 hne')
                obtain ⟨hcs, hfs⟩ := HV.out.1.cell (p) (by rw [movesCont_length, HL.out]; omega)
                clear n21 n23 n25
                go_wp2
                exact hJ undef _ _ (HN2.out) (trivial) (by simp [setU, f11, f18])
              · intro bb u w2 hv hbi hC hF J K hJ hK
                have HV := Lib.hid hv
                have HF := Lib.hid hF
                have HC := Lib.hid hC
                have HBI := Lib.hid hbi
                clear hv hF hC hbi
                have f2 : u 2 = .slice (some ⟨g, 0, none⟩) m c1 := (HF.out 2 (by decide)).2
                have f4 : u 4 = .int .i64 ((p : Int) + 1) := (HF.out 4 (by decide)).2
                go_wp2
                exact hJ _ _ _ (HV.out) (rfl) (by simp [setU, f2, f4])
              · intro bb u w2 hv hbi hC hF J K hJ hK
                have HV := Lib.hid hv
                have HF := Lib.hid hF
                have HC := Lib.hid hC
                have HBI := Lib.hid hbi
                clear hv hF hC hbi
                have f13 : u 13 = .int .u8 (y3.toNat : Int) := (HF.out 13 (by decide)).2
                have f20 : u 20 = .pointer (some ⟨g, p + 1, none⟩) := (HF.out 20 (by decide)).2
                have n23 : bb 23 = false := by cases h : bb 23 with | false => rfl | true => exact absurd (HC.out 23 21 (by decide) h) (by rw [HBI.out]; decide)
                have n25 : bb 25 = false := by cases h : bb 25 with | false => rfl | true => exact absurd (HC.out 25 21 (by decide) h) (by rw [HBI.out]; decide)
                have p19 : bb 19 = true := (HF.out 19 (by decide)).1
                have HN2 := Lib.hid (moves_store21 HV.out p19 HBI.out n23 n25 hg1 hne')
                obtain ⟨hcs, hfs⟩ := HV.out.1.cell (p + 1) (by rw [movesCont_length, HL.out]; omega)
                clear n23 n25 p19
                go_wp2
                exact hJ undef _ _ (HN2.out) (trivial) (by simp [setU, f13, f20])
              · intro bb u w2 hv hbi hC hF J K hJ hK
                have HV := Lib.hid hv
                have HF := Lib.hid hF
                have HC := Lib.hid hC
                have HBI := Lib.hid hbi
                clear hv hF hC hbi
                have f5 : u 5 = .slice (some ⟨g, 0, none⟩) m c1 := (HF.out 5 (by decide)).2
                have f6 : u 6 = .int .i64 (q : Int) := (HF.out 6 (by decide)).2
                go_wp2
                exact hJ _ _ _ (HV.out) (rfl) (by simp [setU, f5, f6])
              · intro bb u w2 hv hbi hC hF J K hJ hK
                have HV := Lib.hid hv
                have HF := Lib.hid hF
                have HC := Lib.hid hC
                have HBI := Lib.hid hbi
                clear hv hF hC hbi
                have f15 : u 15 = .int .u8 (y0.toNat : Int) := (HF.out 15 (by decide)).2
                have f22 : u 22 = .pointer (some ⟨g, q, none⟩) := (HF.out 22 (by decide)).2
                have n25 : bb 25 = false := by cases h : bb 25 with | false => rfl | true => exact absurd (HC.out 25 23 (by decide) h) (by rw [HBI.out]; decide)
                have p19 : bb 19 = true := (HF.out 19 (by decide)).1
                have p21 : bb 21 = true := (HF.out 21 (by decide)).1
                have HN2 := Lib.hid (moves_store23 HV.out p19 p21 HBI.out n25 hg1 hne')
                obtain ⟨hcs, hfs⟩ := HV.out.1.cell (q) (by rw [movesCont_length, HL.out]; omega)
                clear n25 p19 p21
                go_wp2
                exact hJ undef _ _ (HN2.out) (trivial) (by simp [setU, f15, f22])
              · intro bb u w2 hv hbi hC hF J K hJ hK
                have HV := Lib.hid hv
                have HF := Lib.hid hF
                have HC := Lib.hid hC
                have HBI := Lib.hid hbi
                clear hv hF hC hbi
                have f7 : u 7 = .slice (some ⟨g, 0, none⟩) m c1 := (HF.out 7 (by decide)).2
                have f9 : u 9 = .int .i64 ((q : Int) + 1) := (HF.out 9 (by decide)).2
                go_wp2
                exact hJ _ _ _ (HV.out) (rfl) (by simp [setU, f7, f9])
              · intro bb u w2 hv hbi hC hF J K hJ hK
                have HV := Lib.hid hv
                have HF := Lib.hid hF
                have HC := Lib.hid hC
                have HBI := Lib.hid hbi
                clear hv hF hC hbi
                have f17 : u 17 = .int .u8 (y1.toNat : Int) := (HF.out 17 (by decide)).2
                have f24 : u 24 = .pointer (some ⟨g, q + 1, none⟩) := (HF.out 24 (by decide)).2
                have p19 : bb 19 = true := (HF.out 19 (by decide)).1
                have p21 : bb 21 = true := (HF.out 21 (by decide)).1
                have p23 : bb 23 = true := (HF.out 23 (by decide)).1
                have HN2 := Lib.hid (moves_store25 HV.out p19 p21 p23 HBI.out hg1 hne')
                obtain ⟨hcs, hfs⟩ := HV.out.1.cell (q + 1) (by rw [movesCont_length, HL.out]; omega)
                clear p19 p21 p23
                go_wp2
                exact hJ undef _ _ (HN2.out) (trivial) (by simp [setU, f17, f24])
            · intro bb u w2 hb hv hF
              have HV := Lib.hid hv
              have HBB := Lib.hid hb
              clear hv hb hF
              have hv := HV.out
              unfold MovesInv movesCont at hv
              rw [HBB.out 19 (by decide), HBB.out 21 (by decide), HBB.out 23 (by decide), HBB.out 25 (by decide)] at hv
              simp only [cond_true] at hv
              have hs := HS.out
              unfold setWord at hs
              rw [HP.out, HQ.out] at hs
              rw [hs] at hv
              obtain ⟨hv1, hv2, _⟩ := hv
              have HV1 := Lib.hid hv1
              have HV2 := Lib.hid hv2
              clear hv1 hv2 hs
              dsimp only
              go_wp2
              exact ⟨⟨k + 1, by omega, by go_num, swapW l p0 q0, HV1, hsl, hsw, HV2⟩, by simp [intOf]; omega⟩
          · have hm0 : decide (0 < (m : Int)) = false := decide_eq_false (by omega)
            go_wp2_with fail
            all_goals first | exact ⟨⟨k + 1, by omega, by go_num, l, HO, HL, HW, HB⟩, by simp [intOf]; omega⟩ | (exfalso; omega)
        · obtain rfl : k = t.length := by omega
          have EQ : Hid (inetN [l] = inetN [b.take m]) := Lib.hid (inet_words HW.out)
          obtain ⟨v, hv⟩ : ∃ v, inetN [b.take m] = v := ⟨_, rfl⟩
          have VL : Hid (inetN [l] = v) := by show _ = _; rw [EQ.out, hv]
          have VB := Lib.hid hv
          obtain ⟨A4, c4, ev, hr4, hc4, _⟩ := HO.out.form
          injection ev with ea eb ec
          subst ea ec
          have HC4 : Hid (m ≤ c1) := by show _ ≤ _; rw [← HL.out]; exact hc4
          have HR4 := Lib.hid hr4
          have RA := Lib.hid ((H.out.ext HB.out).take m)
          clear eb hr4 hv hc4
          go_wp2_with fail
          refine wp_region_facts [[], [0], [0, 1], [], [], [4], [4, 5], [4, 5, 6], [3, 4, 5, 6, 7], [3, 4, 5, 6, 7, 8], [3, 4, 5, 6, 7, 8, 9], [0, 1, 2, 3, 4, 5, 6, 7, 8, 9, 10], [0, 1, 2, 3, 4, 5, 6, 7, 8, 9, 10, 11], [0, 1, 2, 3, 4, 5, 6, 7, 8, 9, 10, 11, 12], [0, 1, 2, 3, 4, 5, 6, 7, 8, 9, 10, 11, 12, 13], [0, 1, 2, 3, 4, 5, 6, 7, 8, 9, 10, 11, 12, 13, 14]]
            [fun u _ => u = .slice A1 m c1,
             fun u w => ∃ A1, u = .slice A1 1 1 ∧ RBB w A1 [l],
             fun u _ => u = .int .u16 (v : Int),
             fun u _ => u = .slice A b.length c,
             fun u _ => u = .slice A b.length c,
             fun u _ => u = .int .i64 (b.length : Int),
             fun u _ => u = .int .i64 (half : Int),
             fun u _ => u = .int .i64 (m : Int),
             fun u _ => u = .slice A m c,
             fun u w => ∃ A1, u = .slice A1 1 1 ∧ RBB w A1 [(b.take m)],
             fun u _ => u = .int .u16 (v : Int),
             fun u _ => u = .bool true,
             fun u _ => u = .bool true,
             fun u _ => u = .bool true,
             fun u _ => u = .bool true,
             fun u _ => u = .bool true]
            (fun u => ⟨#[Value.slice A b.length c, Value.slice B t.length d, undef, undef, u 15, Value.slice A1 m c1, u6, u7, u8, u9, u10, Value.slice A b.length c, Value.int IntKind.i64 (b.length : Int), Value.bool (decide (65536 < (b.length : Int))), Value.bool (decide (65536 < (b.length : Int))), Value.slice B t.length d, Value.int IntKind.i64 (t.length : Int), Value.bool (decide (1000 < (t.length : Int))), Value.bool (decide (65536 < (b.length : Int)) || decide (1000 < (t.length : Int))), undef, Value.slice A b.length c, Value.slice A b.length c, Value.int IntKind.i64 (b.length : Int), Value.int IntKind.i64 (half : Int), Value.int IntKind.i64 (m : Int), Value.slice A m c, Value.slice A1 m c1, Value.slice B t.length d, Value.int IntKind.i64 (t.length : Int), Value.int IntKind.i64 (t.length : Int), Value.bool false, u31, u32, u33, u34, u35, u36, u37, u38, u39, u40, u41, u42, u43, u44, u45, u46, u47, u48, u49, u50, u51, u52, u53, u54, u55, u56, u57, u58, u59, u60, u61, u62, u63, u64, u65, u66, u67, u68, u69, u70, u71, u72, u73, u74, u75, u76, u77, u78, u79, u80, u81, u82, u83, u84, u85, u86, u87, u88, u89, u90, u91, u92, u93, u 0, u 1, u 2, u 3, u 4, u 5, u 6, u 7, u 8, u 9, u 10, u 11, u 12, u 13, u 14], []⟩)
            (fun j => [undef, undef, undef, undef, undef, undef, undef, undef, undef, undef, undef, undef, undef, undef, undef, Value.bool false].getD j undef) (by kernel_rfl) (by kernel_rfl) (by kernel_rfl) rfl ⟨Mono.eq _, fun _ _ _ e h => h.imp fun _ x => ⟨x.1, x.2.ext e⟩, Mono.eq _, Mono.eq _, Mono.eq _, Mono.eq _, Mono.eq _, Mono.eq _, Mono.eq _, fun _ _ _ e h => h.imp fun _ x => ⟨x.1, x.2.ext e⟩, Mono.eq _, Mono.eq _, Mono.eq _, Mono.eq _, Mono.eq _, Mono.eq _, trivial⟩ ?_ ?_
          · refine ⟨?_, ?_, ?_, ?_, ?_, ?_, ?_, ?_, ?_, ?_, ?_, ?_, ?_, ?_, ?_, ?_, trivial⟩
            · intro u w2 hb hF J K hJ hK
              have HB2 := Lib.hid hb
              have HF := Lib.hid hF
              clear hb hF
              go_wp2
              exact hJ _ _ _ (Below.refl _ _) (rfl) (by simp [setU])
            · intro u w2 hb hF J K hJ hK
              have HB2 := Lib.hid hb
              have HF := Lib.hid hF
              clear hb hF
              have f0 : u 0 = .slice A1 m c1 := HF.out 0 (by decide)
              have hw2 := RBB.one A1 c1 _ _ (HR4.out.ext HB2.out) HL.out.symm HC4.out 22
              go_wp2
              exact hJ _ _ _ (ext_alloc w2 _) (⟨_, rfl, hw2⟩) (by simp [setU, f0])
            · intro u w2 hb hF J K hJ hK
              have HB2 := Lib.hid hb
              have HF := Lib.hid hF
              clear hb hF
              obtain ⟨A9, f1, hr9⟩ := HF.out 1 (by decide)
              have H9 := Lib.hid hr9
              clear hr9
              go_wp2_with fail
              refine (inet_calls A9 1 [_] w2 H9.out (by simp) (one_len (by rw [HL.out]; omega))).mono ?_
              rintro e w3 ⟨rfl, rfl⟩
              rw [VL.out]
              go_wp2
              exact hJ _ _ _ (Below.refl _ _) (rfl) (by simp [setU, f1])
            · intro u w2 hb hF J K hJ hK
              have HB2 := Lib.hid hb
              have HF := Lib.hid hF
              clear hb hF
              go_wp2
              exact hJ _ _ _ (Below.refl _ _) (rfl) (by simp [setU])
            · intro u w2 hb hF J K hJ hK
              have HB2 := Lib.hid hb
              have HF := Lib.hid hF
              clear hb hF
              go_wp2
              exact hJ _ _ _ (Below.refl _ _) (rfl) (by simp [setU])
            · intro u w2 hb hF J K hJ hK
              have HB2 := Lib.hid hb
              have HF := Lib.hid hF
              clear hb hF
              have f4 : u 4 = .slice A b.length c := HF.out 4 (by decide)
              go_wp2
              exact hJ _ _ _ (Below.refl _ _) (rfl) (by simp [setU, f4])
            · intro u w2 hb hF J K hJ hK
              have HB2 := Lib.hid hb
              have HF := Lib.hid hF
              clear hb hF
              have f5 : u 5 = .int .i64 (b.length : Int) := HF.out 5 (by decide)
              go_wp2
              exact hJ _ _ _ (Below.refl _ _) (rfl) (by simp [setU, f5])
            · intro u w2 hb hF J K hJ hK
              have HB2 := Lib.hid hb
              have HF := Lib.hid hF
              clear hb hF
              have f6 : u 6 = .int .i64 (half : Int) := HF.out 6 (by decide)
              go_wp2
              exact hJ _ _ _ (Below.refl _ _) (rfl) (by simp [setU, f6])
            · intro u w2 hb hF J K hJ hK
              have HB2 := Lib.hid hb
              have HF := Lib.hid hF
              clear hb hF
              have f3 : u 3 = .slice A b.length c := HF.out 3 (by decide)
              have f7 : u 7 = .int .i64 (m : Int) := HF.out 7 (by decide)
              go_wp2
              exact hJ _ _ _ (Below.refl _ _) (rfl) (by simp [setU, f3, f7])
            · intro u w2 hb hF J K hJ hK
              have HB2 := Lib.hid hb
              have HF := Lib.hid hF
              clear hb hF
              have f8 : u 8 = .slice A m c := HF.out 8 (by decide)
              have hw2 := RBB.one A c _ _ (RA.out.ext HB2.out) LT.out.symm (by omega) 22
              go_wp2
              exact hJ _ _ _ (ext_alloc w2 _) (⟨_, rfl, hw2⟩) (by simp [setU, f8])
            · intro u w2 hb hF J K hJ hK
              have HB2 := Lib.hid hb
              have HF := Lib.hid hF
              clear hb hF
              obtain ⟨A9, f9, hr9⟩ := HF.out 9 (by decide)
              have H9 := Lib.hid hr9
              clear hr9
              go_wp2_with fail
              refine (inet_calls A9 1 [_] w2 H9.out (by simp) (one_len (by rw [LT.out]; omega))).mono ?_
              rintro e w3 ⟨rfl, rfl⟩
              rw [VB.out]
              go_wp2
              exact hJ _ _ _ (Below.refl _ _) (rfl) (by simp [setU, f9])
            · intro u w2 hb hF J K hJ hK
              have HB2 := Lib.hid hb
              have HF := Lib.hid hF
              clear hb hF
              have f2 : u 2 = .int .u16 (v : Int) := HF.out 2 (by decide)
              have f10 : u 10 = .int .u16 (v : Int) := HF.out 10 (by decide)
              go_wp2
              exact hJ _ _ _ (Below.refl _ _) (rfl) (by simp [setU, f2, f10])
            · intro u w2 hb hF J K hJ hK
              have HB2 := Lib.hid hb
              have HF := Lib.hid hF
              clear hb hF
              have f11 : u 11 = .bool true := HF.out 11 (by decide)
              go_wp2
              exact hJ _ _ _ (Below.refl _ _) (rfl) (by simp [setU, f11])
            · intro u w2 hb hF J K hJ hK
              have HB2 := Lib.hid hb
              have HF := Lib.hid hF
              clear hb hF
              have f12 : u 12 = .bool true := HF.out 12 (by decide)
              go_wp2_with fail
              refine (awake_calls _ (HN.out.ext (ext_trans HB.out HB2.out))).mono ?_
              rintro e w3 ⟨rfl, hb3⟩
              have HB3 := Lib.hid hb3
              clear hb3
              go_wp2
              exact hJ _ _ _ (HB3.out) (rfl) (by simp [setU, f12])
            · intro u w2 hb hF J K hJ hK
              have HB2 := Lib.hid hb
              have HF := Lib.hid hF
              clear hb hF
              have f12 : u 12 = .bool true := HF.out 12 (by decide)
              have f13 : u 13 = .bool true := HF.out 13 (by decide)
              go_wp2
              exact hJ _ _ _ (Below.refl _ _) (rfl) (by simp [setU, f12, f13])
            · intro u w2 hb hF J K hJ hK
              have HB2 := Lib.hid hb
              have HF := Lib.hid hF
              clear hb hF
              have f14 : u 14 = .bool true := HF.out 14 (by decide)
              go_wp2
              exact hJ _ _ _ (Below.refl _ _) (rfl) (by simp [setU, f14])
          · intro u w2 hb hF
            have HB2 := Lib.hid hb
            have f15 : u 15 = .bool true := hF 15 (by decide)
            clear hb hF
            go_wp2
            go_ret
            exact ⟨by simp [f15], ext_trans HB.out HB2.out⟩
end Go.Proofs.YtnknkmpdkdpnaaaDoor
