/- tcp: emit: the walk. tcp: ack, syn, on, reset, Abort: the walks. tcp: on: the walk. tcp: push: the walk. -/
import Derived.Test.YtjhnnnklfhbebaaTa
import Derived.Deep.DeepCutAuto
import Derived.Deep.RegionWith
import Derived.BigRegion
import Derived.StillTailTactics
namespace Go.Proofs.Ytjhnnnklfhbebaa
open Go.RowKit
set_option linter.unusedVariables false
set_option linter.unusedSimpArgs false

theorem clone_k (A : Option Addr) (c n : Nat) (l : List UInt8) (hn : l.length = n) (w : World) (h : RB w A l) (hl : n ≤ 100000) :
    Calls Try.prog 64 #[.slice A n c] w fun e w' => ∃ R d, e = .returned (.slice R n d) ∧ n ≤ d ∧ d ≤ maxLen ∧ OwnB w.heap.size 5 w' (.slice R n d) l ∧ Below w.heap.size w w' := by
  refine (clone_n A c n l hn w h hl).mono ?_
  rintro e w' ⟨R, d, rfl, hd, _, ho, hb⟩
  obtain ⟨_, _, ea, _, _, hm⟩ := ho.form
  injection ea with _ _ ec
  exact ⟨R, d, rfl, hd, ec ▸ hm, ho, hb⟩
/-- A packet that is made, in a block of its own. -/
def MadeAt (S : Nat) (cs : List Value) (v : Value) (W : World) : Prop := ∃ g, v = .pointer (some ⟨g, 0, none⟩) ∧ S ≤ g ∧ BK W g 32 cs
theorem MadeAt.mono (S : Nat) (cs : List Value) : Mono (MadeAt S cs) := fun v w1 w2 h ⟨g, e, hs, hk⟩ => ⟨g, e, hs, hk.ext h⟩
def ClonedAt (S : Nat) (l : List UInt8) (n : Nat) (v : Value) (W : World) : Prop := ∃ R d, v = .slice R n d ∧ n ≤ d ∧ d ≤ maxLen ∧ OwnB S 5 W (.slice R n d) l
theorem ClonedAt.mono (S : Nat) (l : List UInt8) (n : Nat) : Mono (ClonedAt S l n) := fun v w1 w2 h ⟨R, d, e, h1, h2, ho⟩ => ⟨R, d, e, h1, h2, ho.ext h⟩
def BuiltAt (S : Nat) (pre : List Value) (l : List UInt8) (n : Nat) (v : Value) (W : World) : Prop := ∃ R d, v = Value.agg (pre ++ [Value.slice R n d]).toArray ∧ n ≤ d ∧ d ≤ maxLen ∧ OwnB S 5 W (.slice R n d) l
theorem BuiltAt.mono (S : Nat) (pre : List Value) (l : List UInt8) (n : Nat) : Mono (BuiltAt S pre l n) := fun v w1 w2 h ⟨R, d, e, h1, h2, ho⟩ => ⟨R, d, e, h1, h2, ho.ext h⟩
theorem MonoRow.noRow {f : Value → World → Prop} (h : Mono f) : MonoRow none f := fun v w1 w2 g k => h v w1 w2 ⟨g.os, g.tape, g.output, g.size, fun i hi => g.block i hi (by simp)⟩ k
theorem ClonedAt.noRow (S : Nat) (l : List UInt8) (n : Nat) : MonoRow none (ClonedAt S l n) := MonoRow.noRow (ClonedAt.mono S l n)
theorem BuiltAt.noRow (S : Nat) (pre : List Value) (l : List UInt8) (n : Nat) : MonoRow none (BuiltAt S pre l n) := MonoRow.noRow (BuiltAt.mono S pre l n)
theorem MadeAt.noRow (S : Nat) (cs : List Value) : MonoRow none (MadeAt S cs) := MonoRow.noRow (MadeAt.mono S cs)
/-- A flag of a number below 16. -/
theorem flag2 (fl : Nat) (h : fl ≤ 15) : bits .and .i64 (fl : Int) 2 = if fl / 2 % 2 = 1 then 2 else 0 := by
  have : ∀ f, f ≤ 15 → bits .and .i64 ((f : Nat) : Int) 2 = if f / 2 % 2 = 1 then 2 else 0 := by decide
  exact this fl h
theorem flag1 (fl : Nat) (h : fl ≤ 15) : bits .and .i64 (fl : Int) 1 = if fl % 2 = 1 then 1 else 0 := by
  have : ∀ f, f ≤ 15 → bits .and .i64 ((f : Nat) : Int) 1 = if f % 2 = 1 then 1 else 0 := by decide
  exact this fl h
theorem infoPk : (Try.prog.info? 32).map (fun i => (i.zero, i.size, i.bytes)) = some (some (.agg zeroCs.toArray), 11, 96) := by kernel_rfl
theorem NNgrown {N : Nat → Prop} {w w' : World} {row : Option Nat} (hr : ∀ g, row = some g → N g) (e : w.grownBy w' row) {ps : List Pk} {xs : List Value} (h : PkRow N w ps xs) : PkRow N w' ps xs := by
  cases row with
  | none => exact h.ext ⟨e.os, e.tape, e.output, e.size, fun i hi => e.block i hi (by simp)⟩
  | some g => exact h.grown e (hr g rfl)
/-- One packet more. -/
theorem PackIs.append {N N' : Nat → Prop} {w2 w3 : World} {vp v' : Value} {ps : List Pk} {p : Pk} {R : Option Addr} {n d : Nat} {xs : List Value} (h1 : PkRow N w2 ps xs) (hn : n = p.data.length) (hp : SlN N w2 (.slice R n d) p.data) (hseq : p.seq < 4294967296) (hack : p.ack < 4294967296)
    (hNv : ∀ b, vp.ownBlock = some b → N b) (hg : w2.grownBy w3 vp.ownBlock) (hv : v'.ownBlock = vp.ownBlock ∨ v'.ownBlock = some w2.heap.size) (ho : w3.ownsRow 0 32 11 v' (ps.length + 1) (xs ++ p.cs R n d))
    (hN' : ∀ b, N' b → N b ∨ v'.ownBlock = some b) : PackIs N' w3 v' (ps ++ [p]) := by
  subst hn
  refine ⟨xs ++ p.cs R p.data.length d, by rw [List.length_append]; exact ho, ?_⟩
  have h2 := h1.snoc hp hseq hack
  have h3 : PkRow (fun b => N b ∨ v'.ownBlock = some b) w2 (ps ++ [p]) (xs ++ p.cs R p.data.length d) := h2.weaken fun b hb hn => hn.elim id fun e => by
    rcases hv with hv | hv
    · exact hNv b (hv ▸ e)
    · rw [hv] at e
      have := Option.some.inj e
      omega
  exact (NNgrown (fun g e => .inl (hNv g e)) hg h3).weaken fun b _ hn => hN' b hn
/-- The packet in a slice of its own. -/
def SlPk (Z : Nat) (cs : List Value) (v : Value) (W : World) : Prop := ∃ g, v = .slice (some ⟨g, 0, none⟩) 1 1 ∧ Z ≤ g ∧ BK W g 32 cs
theorem SlPk.mono (Z : Nat) (cs : List Value) : Mono (SlPk Z cs) := fun v w1 w2 h ⟨g, e, hz, hk⟩ => ⟨g, e, hz, hk.ext h⟩
theorem SlPk.monoRow {Z : Nat} (cs : List Value) {row : Option Nat} (hr : ∀ b, row = some b → b < Z) : MonoRow row (SlPk Z cs) := fun v w1 w2 h ⟨g, e, hz, hk⟩ => ⟨g, e, hz, hk.same (h.block g hk.lt (fun e => by have := hr g e.symm; omega))⟩
theorem cell_same {w w' : World} {k : Nat} (h : w'.heap[k]? = w.heap[k]?) (i : Nat) : w'.cell? ⟨k, i, none⟩ = w.cell? ⟨k, i, none⟩ := by unfold World.cell?; rw [h]
theorem frozen_same {w w' : World} {k : Nat} (h : w'.heap[k]? = w.heap[k]?) (i : Nat) : w'.frozen? ⟨k, i, none⟩ = w.frozen? ⟨k, i, none⟩ := by unfold World.frozen?; rw [h]
theorem PackIs.form' {N : Nat → Prop} {w : World} {vp : Value} {ps : List Pk} (h : PackIs N w vp ps) : ∃ A m c, vp = .slice A m c := by
  obtain ⟨xs, h1, _⟩ := h
  rcases h1.2 with ⟨rfl, h0⟩ | ⟨g, cap, cur, rfl, _⟩
  · exact ⟨none, 0, 0, rfl⟩
  · exact ⟨_, _, cap, rfl⟩
theorem PackIs.form {N : Nat → Prop} {w : World} {vp : Value} {ps : List Pk} (h : PackIs N w vp ps) : ∃ A c, vp = .slice A ps.length c := by
  obtain ⟨xs, h1, _⟩ := h
  rcases h1.2 with ⟨rfl, h0⟩ | ⟨g, cap, cur, rfl, _⟩
  · exact ⟨none, 0, by rw [h0]⟩
  · exact ⟨_, cap, rfl⟩
/-- The row with one packet more. -/
def PackAt (N : Nat → Prop) (w0 : World) (k : Nat) (vp : Value) (ps : List Pk) (v : Value) (W : World) : Prop := PackIs (NN N k v) W v ps ∧ (∀ b, v.ownBlock = some b → ¬ N b ∧ b ≠ k) ∧ After w0 vp v
theorem PackAt.mono (N : Nat → Prop) (w0 : World) (k : Nat) (vp : Value) (ps : List Pk) : Mono (PackAt N w0 k vp ps) := fun v w1 w2 h ⟨a, b, c⟩ => ⟨a.ext h, b, c⟩
theorem SlN.below {N : Nat → Prop} {S : Nat} {w : World} {R : Option Addr} {n d : Nat} {l : List UInt8} (ho : OwnB S 5 w (.slice R n d) l) (hN : ∀ b, N b → b < S) : SlN N w (.slice R n d) l := SlN.of_own ho hN
theorem add_pl (b o i : Nat) : (⟨b, o, none⟩ : Addr).add i = ⟨b, o + i, none⟩ := by unfold Addr.add; split <;> simp_all
theorem After.earlier {w w1 : World} {vp v1 : Value} (h : After w1 vp v1) (hs : w.heap.size ≤ w1.heap.size) : After w vp v1 := fun b hb => (h b hb).imp id (Nat.le_trans hs)

set_option maxRecDepth 100000 in
set_option maxHeartbeats 2000000 in
theorem emit_calls {N : Nat → Prop} (w : World) (k : Nat) (s : TS) (vp : Value) (h : ConnIs N w k s vp) (hN : ∀ b, N b → b < w.heap.size) (hi : s.inn.length ≤ 1024) (hpk : s.pack.length ≤ 1000000) (hir : s.irs < 4294967296)
    (fl : Nat) (hfl : fl ≤ 15) (at_ : Nat) (hat : at_ < 4294967296) (D : Option Addr) (n c : Nat) (data : List UInt8) (hn : data.length = n) (hd : RB w D data) (hn2 : n ≤ 2000) :
    Calls Try.prog 75 #[.pointer (some ⟨k, 0, none⟩), .int .i64 (fl : Int), .int .u32 (at_ : Int), .slice D n c] w (Did N w k vp (s.emit fl at_ data) (.tuple #[])) := by
  have H := Lib.hid h
  have HD := Lib.hid hd
  have HN := Lib.hid hn
  have HNN := Lib.hid hN
  have hlt := h.lt.1
  clear h hd hn hN
  obtain ⟨S, hS⟩ : ∃ S, w.heap.size = S := ⟨_, rfl⟩
  have HS := Lib.hid hS
  clear hS
  go_enter Try.func75, Try.ntmps75
  go_upto_region 0 with fail
  refine wp_region_fin [[], [0], [0, 1], [0, 1, 2], [0, 1, 2, 3], [], [5], [5, 6], [5, 6, 7], [5, 6, 7, 8], [], [10], [10, 11], [10, 11, 12], [10, 11, 12, 13], [], [15], [15, 16], [15, 16, 17], [15, 16, 17, 18], [], [], [], [22], [], [22, 23, 24], [0, 1, 2, 3, 4, 5, 6, 7, 8, 9, 10, 11, 12, 13, 14, 15, 16, 17, 18, 19, 20, 21, 22, 23, 24, 25], [], [0, 1, 2, 3, 4, 5, 6, 7, 8, 9, 10, 11, 12, 13, 14, 15, 16, 17, 18, 19, 20, 21, 22, 23, 24, 25, 26, 27]]
    [fun u _ => u = .pointer (some ⟨k, 0, none⟩),
     fun u _ => u = .pointer (some ⟨k, 0, none⟩),
     fun u _ => u = .pointer (some ⟨k, 0, none⟩),
     fun u _ => u = .pointer (some ⟨k, 0, none⟩),
     fun u _ => u = .int .i64 s.src,
     fun u _ => u = .pointer (some ⟨k, 0, none⟩),
     fun u _ => u = .pointer (some ⟨k, 0, none⟩),
     fun u _ => u = .pointer (some ⟨k, 0, none⟩),
     fun u _ => u = .pointer (some ⟨k, 1, none⟩),
     fun u _ => u = .int .i64 s.dst,
     fun u _ => u = .pointer (some ⟨k, 0, none⟩),
     fun u _ => u = .pointer (some ⟨k, 0, none⟩),
     fun u _ => u = .pointer (some ⟨k, 0, none⟩),
     fun u _ => u = .pointer (some ⟨k, 2, none⟩),
     fun u _ => u = .int .i64 s.sp,
     fun u _ => u = .pointer (some ⟨k, 0, none⟩),
     fun u _ => u = .pointer (some ⟨k, 0, none⟩),
     fun u _ => u = .pointer (some ⟨k, 0, none⟩),
     fun u _ => u = .pointer (some ⟨k, 3, none⟩),
     fun u _ => u = .int .i64 s.dp,
     fun u _ => u = .int .u32 (at_ : Int),
     fun u _ => u = .int .i64 (fl : Int),
     fun u _ => u = .pointer (some ⟨k, 0, none⟩),
     fun u _ => u = .int .i64 (s.window : Int),
     fun u _ => u = .slice D n c,
     fun u w => ClonedAt S data n u w,
     fun u w => BuiltAt S [.int .i64 s.src, .int .i64 s.dst, .int .i64 s.sp, .int .i64 s.dp, .int .u32 (at_ : Int), .int .u32 0, .int .i64 (fl : Int), .int .i64 (s.window : Int), .int .i64 0, .int .i64 0] data n u w,
     fun u w => MadeAt S zeroCs u w]
    (fun u => ⟨#[Value.pointer (some { block := k, off := 0 }), Value.int IntKind.i64 (fl : Int), Value.int IntKind.u32 (at_ : Int), Value.slice D n c, undef, undef, undef, undef, u 27, u 0, u 1, u 2, u 3, u 4, u 5, u 6, u 7, u 8, u 9, u 10, u 11, u 12, u 13, u 14, u 15, u 16, u 17, u 18, u 19, u 20, u 21, u 22, u 23, u 24, u 25, u 26, undef, undef, undef, undef, undef, undef, undef, undef, undef, undef, undef, undef, undef, undef, undef, undef, undef, undef, undef, undef, undef, undef, undef, undef, undef, undef, undef, undef], []⟩)
    (fun W => Below S w W) (fun _ => True) none 26 28 (fun u W => ∃ g R d, u 27 = .pointer (some ⟨g, 0, none⟩) ∧ S ≤ g ∧ n ≤ d ∧ d ≤ maxLen ∧ OwnB S 5 W (.slice R n d) data ∧ BK W g 32 [.int .i64 s.src, .int .i64 s.dst, .int .i64 s.sp, .int .i64 s.dp, .int .u32 (at_ : Int), .int .u32 0, .int .i64 (fl : Int), .int .i64 (s.window : Int), .int .i64 0, .int .i64 0, .slice R n d] ∧ Below S w W) (fun j => [undef, undef, undef, undef, undef, undef, undef, undef, undef, undef, undef, undef, undef, undef, undef, undef, undef, undef, undef, undef, undef, undef, undef, undef, undef, undef, undef, undef, undef].getD j undef) (by kernel_rfl) (by kernel_rfl) (by kernel_rfl) rfl (by kernel_rfl) (Nat.le_of_eq rfl) ⟨Mono.eq _, Mono.eq _, Mono.eq _, Mono.eq _, Mono.eq _, Mono.eq _, Mono.eq _, Mono.eq _, Mono.eq _, Mono.eq _, Mono.eq _, Mono.eq _, Mono.eq _, Mono.eq _, Mono.eq _, Mono.eq _, Mono.eq _, Mono.eq _, Mono.eq _, Mono.eq _, Mono.eq _, Mono.eq _, Mono.eq _, Mono.eq _, Mono.eq _, ClonedAt.mono _ _ _, BuiltAt.mono _ _ _ _, MadeAt.mono _ _, trivial⟩ ⟨.inr (.inr (MonoRow.eq _ _)), ⟨.inr (.inr (MonoRow.eq _ _)), ⟨.inr (.inr (MonoRow.eq _ _)), ⟨.inr (.inr (MonoRow.eq _ _)), ⟨.inr (.inr (MonoRow.eq _ _)), ⟨.inr (.inr (MonoRow.eq _ _)), ⟨.inr (.inr (MonoRow.eq _ _)), ⟨.inr (.inr (MonoRow.eq _ _)), ⟨.inr (.inr (MonoRow.eq _ _)), ⟨.inr (.inr (MonoRow.eq _ _)), ⟨.inr (.inr (MonoRow.eq _ _)), ⟨.inr (.inr (MonoRow.eq _ _)), ⟨.inr (.inr (MonoRow.eq _ _)), ⟨.inr (.inr (MonoRow.eq _ _)), ⟨.inr (.inr (MonoRow.eq _ _)), ⟨.inr (.inr (MonoRow.eq _ _)), ⟨.inr (.inr (MonoRow.eq _ _)), ⟨.inr (.inr (MonoRow.eq _ _)), ⟨.inr (.inr (MonoRow.eq _ _)), ⟨.inr (.inr (MonoRow.eq _ _)), ⟨.inr (.inr (MonoRow.eq _ _)), ⟨.inr (.inr (MonoRow.eq _ _)), ⟨.inr (.inr (MonoRow.eq _ _)), ⟨.inr (.inr (MonoRow.eq _ _)), ⟨.inr (.inr (MonoRow.eq _ _)), ⟨.inr (.inr (ClonedAt.noRow _ _ _)), ⟨.inl rfl, ⟨.inr (.inr (MadeAt.noRow _ _)), trivial⟩⟩⟩⟩⟩⟩⟩⟩⟩⟩⟩⟩⟩⟩⟩⟩⟩⟩⟩⟩⟩⟩⟩⟩⟩⟩⟩⟩
    (fun _ _ _ h => h) (fun u v W h => h) ((Below.refl _ _).drew) (trivial) ?_ ?_
  · refine ⟨?_, ?_, ?_, ?_, ?_, ?_, ?_, ?_, ?_, ?_, ?_, ?_, ?_, ?_, ?_, ?_, ?_, ?_, ?_, ?_, ?_, ?_, ?_, ?_, ?_, ?_, ?_, ?_, ?_, trivial⟩
    · intro u w2 hb hS hG hF hU J K hJ hK
      have HB2 := Lib.hid hb
      have HS2 := Lib.hid hS
      have HG2 := Lib.hid hG
      have HF := Lib.hid hF
      clear hb hF hS hG hU
      go_wp2
      exact hJ _ _ _ (Nat.le_refl _) (fun _ => ⟨HB2.out, fun _ => Below.refl _ _, fun h => absurd h (by decide), rfl⟩) (fun h => absurd h (by decide)) (by simp [setU] <;> omega)
    · intro u w2 hb hS hG hF hU J K hJ hK
      have HB2 := Lib.hid hb
      have HS2 := Lib.hid hS
      have HG2 := Lib.hid hG
      have HF := Lib.hid hF
      clear hb hF hS hG hU
      have f0 : u 0 = .pointer (some ⟨k, 0, none⟩) := HF.out 0 (by decide)
      go_wp2
      exact hJ _ _ _ (Nat.le_refl _) (fun _ => ⟨HB2.out, fun _ => Below.refl _ _, fun h => absurd h (by decide), rfl⟩) (fun h => absurd h (by decide)) (by simp [setU, f0] <;> omega)
    · intro u w2 hb hS hG hF hU J K hJ hK
      have HB2 := Lib.hid hb
      have HS2 := Lib.hid hS
      have HG2 := Lib.hid hG
      have HF := Lib.hid hF
      clear hb hF hS hG hU
      have f1 : u 1 = .pointer (some ⟨k, 0, none⟩) := HF.out 1 (by decide)
      go_wp2
      exact hJ _ _ _ (Nat.le_refl _) (fun _ => ⟨HB2.out, fun _ => Below.refl _ _, fun h => absurd h (by decide), rfl⟩) (fun h => absurd h (by decide)) (by simp [setU, f1] <;> omega)
    · intro u w2 hb hS hG hF hU J K hJ hK
      have HB2 := Lib.hid hb
      have HS2 := Lib.hid hS
      have HG2 := Lib.hid hG
      have HF := Lib.hid hF
      clear hb hF hS hG hU
      have f2 : u 2 = .pointer (some ⟨k, 0, none⟩) := HF.out 2 (by decide)
      go_wp2
      exact hJ _ _ _ (Nat.le_refl _) (fun _ => ⟨HB2.out, fun _ => Below.refl _ _, fun h => absurd h (by decide), rfl⟩) (fun h => absurd h (by decide)) (by simp [setU, f2] <;> omega)
    · intro u w2 hb hS hG hF hU J K hJ hK
      have HB2 := Lib.hid hb
      have HS2 := Lib.hid hS
      have HG2 := Lib.hid hG
      have HF := Lib.hid hF
      clear hb hF hS hG hU
      have f3 : u 3 = .pointer (some ⟨k, 0, none⟩) := HF.out 3 (by decide)
      have cc := (H.out.ext (HS.out.symm ▸ HB2.out)).cellH 0 (by decide) (fun _ _ => rfl)
      go_wp2
      exact hJ _ _ _ (Nat.le_refl _) (fun _ => ⟨HB2.out, fun _ => Below.refl _ _, fun h => absurd h (by decide), rfl⟩) (fun h => absurd h (by decide)) (by simp [setU, f3] <;> omega)
    · intro u w2 hb hS hG hF hU J K hJ hK
      have HB2 := Lib.hid hb
      have HS2 := Lib.hid hS
      have HG2 := Lib.hid hG
      have HF := Lib.hid hF
      clear hb hF hS hG hU
      go_wp2
      exact hJ _ _ _ (Nat.le_refl _) (fun _ => ⟨HB2.out, fun _ => Below.refl _ _, fun h => absurd h (by decide), rfl⟩) (fun h => absurd h (by decide)) (by simp [setU] <;> omega)
    · intro u w2 hb hS hG hF hU J K hJ hK
      have HB2 := Lib.hid hb
      have HS2 := Lib.hid hS
      have HG2 := Lib.hid hG
      have HF := Lib.hid hF
      clear hb hF hS hG hU
      have f5 : u 5 = .pointer (some ⟨k, 0, none⟩) := HF.out 5 (by decide)
      go_wp2
      exact hJ _ _ _ (Nat.le_refl _) (fun _ => ⟨HB2.out, fun _ => Below.refl _ _, fun h => absurd h (by decide), rfl⟩) (fun h => absurd h (by decide)) (by simp [setU, f5] <;> omega)
    · intro u w2 hb hS hG hF hU J K hJ hK
      have HB2 := Lib.hid hb
      have HS2 := Lib.hid hS
      have HG2 := Lib.hid hG
      have HF := Lib.hid hF
      clear hb hF hS hG hU
      have f6 : u 6 = .pointer (some ⟨k, 0, none⟩) := HF.out 6 (by decide)
      go_wp2
      exact hJ _ _ _ (Nat.le_refl _) (fun _ => ⟨HB2.out, fun _ => Below.refl _ _, fun h => absurd h (by decide), rfl⟩) (fun h => absurd h (by decide)) (by simp [setU, f6] <;> omega)
    · intro u w2 hb hS hG hF hU J K hJ hK
      have HB2 := Lib.hid hb
      have HS2 := Lib.hid hS
      have HG2 := Lib.hid hG
      have HF := Lib.hid hF
      clear hb hF hS hG hU
      have f7 : u 7 = .pointer (some ⟨k, 0, none⟩) := HF.out 7 (by decide)
      go_wp2
      exact hJ _ _ _ (Nat.le_refl _) (fun _ => ⟨HB2.out, fun _ => Below.refl _ _, fun h => absurd h (by decide), rfl⟩) (fun h => absurd h (by decide)) (by simp [setU, f7] <;> omega)
    · intro u w2 hb hS hG hF hU J K hJ hK
      have HB2 := Lib.hid hb
      have HS2 := Lib.hid hS
      have HG2 := Lib.hid hG
      have HF := Lib.hid hF
      clear hb hF hS hG hU
      have f8 : u 8 = .pointer (some ⟨k, 1, none⟩) := HF.out 8 (by decide)
      have cc := (H.out.ext (HS.out.symm ▸ HB2.out)).cellH 1 (by decide) (fun _ _ => rfl)
      go_wp2
      exact hJ _ _ _ (Nat.le_refl _) (fun _ => ⟨HB2.out, fun _ => Below.refl _ _, fun h => absurd h (by decide), rfl⟩) (fun h => absurd h (by decide)) (by simp [setU, f8] <;> omega)
    · intro u w2 hb hS hG hF hU J K hJ hK
      have HB2 := Lib.hid hb
      have HS2 := Lib.hid hS
      have HG2 := Lib.hid hG
      have HF := Lib.hid hF
      clear hb hF hS hG hU
      go_wp2
      exact hJ _ _ _ (Nat.le_refl _) (fun _ => ⟨HB2.out, fun _ => Below.refl _ _, fun h => absurd h (by decide), rfl⟩) (fun h => absurd h (by decide)) (by simp [setU] <;> omega)
    · intro u w2 hb hS hG hF hU J K hJ hK
      have HB2 := Lib.hid hb
      have HS2 := Lib.hid hS
      have HG2 := Lib.hid hG
      have HF := Lib.hid hF
      clear hb hF hS hG hU
      have f10 : u 10 = .pointer (some ⟨k, 0, none⟩) := HF.out 10 (by decide)
      go_wp2
      exact hJ _ _ _ (Nat.le_refl _) (fun _ => ⟨HB2.out, fun _ => Below.refl _ _, fun h => absurd h (by decide), rfl⟩) (fun h => absurd h (by decide)) (by simp [setU, f10] <;> omega)
    · intro u w2 hb hS hG hF hU J K hJ hK
      have HB2 := Lib.hid hb
      have HS2 := Lib.hid hS
      have HG2 := Lib.hid hG
      have HF := Lib.hid hF
      clear hb hF hS hG hU
      have f11 : u 11 = .pointer (some ⟨k, 0, none⟩) := HF.out 11 (by decide)
      go_wp2
      exact hJ _ _ _ (Nat.le_refl _) (fun _ => ⟨HB2.out, fun _ => Below.refl _ _, fun h => absurd h (by decide), rfl⟩) (fun h => absurd h (by decide)) (by simp [setU, f11] <;> omega)
    · intro u w2 hb hS hG hF hU J K hJ hK
      have HB2 := Lib.hid hb
      have HS2 := Lib.hid hS
      have HG2 := Lib.hid hG
      have HF := Lib.hid hF
      clear hb hF hS hG hU
      have f12 : u 12 = .pointer (some ⟨k, 0, none⟩) := HF.out 12 (by decide)
      go_wp2
      exact hJ _ _ _ (Nat.le_refl _) (fun _ => ⟨HB2.out, fun _ => Below.refl _ _, fun h => absurd h (by decide), rfl⟩) (fun h => absurd h (by decide)) (by simp [setU, f12] <;> omega)
    · intro u w2 hb hS hG hF hU J K hJ hK
      have HB2 := Lib.hid hb
      have HS2 := Lib.hid hS
      have HG2 := Lib.hid hG
      have HF := Lib.hid hF
      clear hb hF hS hG hU
      have f13 : u 13 = .pointer (some ⟨k, 2, none⟩) := HF.out 13 (by decide)
      have cc := (H.out.ext (HS.out.symm ▸ HB2.out)).cellH 2 (by decide) (fun _ _ => rfl)
      go_wp2
      exact hJ _ _ _ (Nat.le_refl _) (fun _ => ⟨HB2.out, fun _ => Below.refl _ _, fun h => absurd h (by decide), rfl⟩) (fun h => absurd h (by decide)) (by simp [setU, f13] <;> omega)
    · intro u w2 hb hS hG hF hU J K hJ hK
      have HB2 := Lib.hid hb
      have HS2 := Lib.hid hS
      have HG2 := Lib.hid hG
      have HF := Lib.hid hF
      clear hb hF hS hG hU
      go_wp2
      exact hJ _ _ _ (Nat.le_refl _) (fun _ => ⟨HB2.out, fun _ => Below.refl _ _, fun h => absurd h (by decide), rfl⟩) (fun h => absurd h (by decide)) (by simp [setU] <;> omega)
    · intro u w2 hb hS hG hF hU J K hJ hK
      have HB2 := Lib.hid hb
      have HS2 := Lib.hid hS
      have HG2 := Lib.hid hG
      have HF := Lib.hid hF
      clear hb hF hS hG hU
      have f15 : u 15 = .pointer (some ⟨k, 0, none⟩) := HF.out 15 (by decide)
      go_wp2
      exact hJ _ _ _ (Nat.le_refl _) (fun _ => ⟨HB2.out, fun _ => Below.refl _ _, fun h => absurd h (by decide), rfl⟩) (fun h => absurd h (by decide)) (by simp [setU, f15] <;> omega)
    · intro u w2 hb hS hG hF hU J K hJ hK
      have HB2 := Lib.hid hb
      have HS2 := Lib.hid hS
      have HG2 := Lib.hid hG
      have HF := Lib.hid hF
      clear hb hF hS hG hU
      have f16 : u 16 = .pointer (some ⟨k, 0, none⟩) := HF.out 16 (by decide)
      go_wp2
      exact hJ _ _ _ (Nat.le_refl _) (fun _ => ⟨HB2.out, fun _ => Below.refl _ _, fun h => absurd h (by decide), rfl⟩) (fun h => absurd h (by decide)) (by simp [setU, f16] <;> omega)
    · intro u w2 hb hS hG hF hU J K hJ hK
      have HB2 := Lib.hid hb
      have HS2 := Lib.hid hS
      have HG2 := Lib.hid hG
      have HF := Lib.hid hF
      clear hb hF hS hG hU
      have f17 : u 17 = .pointer (some ⟨k, 0, none⟩) := HF.out 17 (by decide)
      go_wp2
      exact hJ _ _ _ (Nat.le_refl _) (fun _ => ⟨HB2.out, fun _ => Below.refl _ _, fun h => absurd h (by decide), rfl⟩) (fun h => absurd h (by decide)) (by simp [setU, f17] <;> omega)
    · intro u w2 hb hS hG hF hU J K hJ hK
      have HB2 := Lib.hid hb
      have HS2 := Lib.hid hS
      have HG2 := Lib.hid hG
      have HF := Lib.hid hF
      clear hb hF hS hG hU
      have f18 : u 18 = .pointer (some ⟨k, 3, none⟩) := HF.out 18 (by decide)
      have cc := (H.out.ext (HS.out.symm ▸ HB2.out)).cellH 3 (by decide) (fun _ _ => rfl)
      go_wp2
      exact hJ _ _ _ (Nat.le_refl _) (fun _ => ⟨HB2.out, fun _ => Below.refl _ _, fun h => absurd h (by decide), rfl⟩) (fun h => absurd h (by decide)) (by simp [setU, f18] <;> omega)
    · intro u w2 hb hS hG hF hU J K hJ hK
      have HB2 := Lib.hid hb
      have HS2 := Lib.hid hS
      have HG2 := Lib.hid hG
      have HF := Lib.hid hF
      clear hb hF hS hG hU
      go_wp2
      exact hJ _ _ _ (Nat.le_refl _) (fun _ => ⟨HB2.out, fun _ => Below.refl _ _, fun h => absurd h (by decide), rfl⟩) (fun h => absurd h (by decide)) (by simp [setU] <;> omega)
    · intro u w2 hb hS hG hF hU J K hJ hK
      have HB2 := Lib.hid hb
      have HS2 := Lib.hid hS
      have HG2 := Lib.hid hG
      have HF := Lib.hid hF
      clear hb hF hS hG hU
      go_wp2
      exact hJ _ _ _ (Nat.le_refl _) (fun _ => ⟨HB2.out, fun _ => Below.refl _ _, fun h => absurd h (by decide), rfl⟩) (fun h => absurd h (by decide)) (by simp [setU] <;> omega)
    · intro u w2 hb hS hG hF hU J K hJ hK
      have HB2 := Lib.hid hb
      have HS2 := Lib.hid hS
      have HG2 := Lib.hid hG
      have HF := Lib.hid hF
      clear hb hF hS hG hU
      go_wp2
      exact hJ _ _ _ (Nat.le_refl _) (fun _ => ⟨HB2.out, fun _ => Below.refl _ _, fun h => absurd h (by decide), rfl⟩) (fun h => absurd h (by decide)) (by simp [setU] <;> omega)
    · intro u w2 hb hS hG hF hU J K hJ hK
      have HB2 := Lib.hid hb
      have HS2 := Lib.hid hS
      have HG2 := Lib.hid hG
      have HF := Lib.hid hF
      clear hb hF hS hG hU
      have f22 : u 22 = .pointer (some ⟨k, 0, none⟩) := HF.out 22 (by decide)
      go_wp2_with (go_at_call 78; refine (window_calls w2 k s vp (H.out.ext (HS.out.symm ▸ HB2.out)) hi).mono ?_; rintro e w3 ⟨rfl, rfl⟩)
      exact hJ _ _ _ (Nat.le_refl _) (fun _ => ⟨HB2.out, fun _ => Below.refl _ _, fun h => absurd h (by decide), rfl⟩) (fun h => absurd h (by decide)) (by simp [setU, f22] <;> omega)
    · intro u w2 hb hS hG hF hU J K hJ hK
      have HB2 := Lib.hid hb
      have HS2 := Lib.hid hS
      have HG2 := Lib.hid hG
      have HF := Lib.hid hF
      clear hb hF hS hG hU
      go_wp2
      exact hJ _ _ _ (Nat.le_refl _) (fun _ => ⟨HB2.out, fun _ => Below.refl _ _, fun h => absurd h (by decide), rfl⟩) (fun h => absurd h (by decide)) (by simp [setU] <;> omega)
    · intro u w2 hb hS hG hF hU J K hJ hK
      have HB2 := Lib.hid hb
      have HS2 := Lib.hid hS
      have HG2 := Lib.hid hG
      have HF := Lib.hid hF
      clear hb hF hS hG hU
      have f24 : u 24 = .slice D n c := HF.out 24 (by decide)
      go_wp2_with (go_at_call 64; refine (clone_k D c n data HN.out w2 (HD.out.ext (HS.out.symm ▸ HB2.out)) (by omega)).mono ?_; rintro e w3 ⟨R, d, rfl, hd1, hd2, ho, hb⟩)
      have HO3 := Lib.hid ho; have HB3 := Lib.hid hb; clear ho hb
      exact hJ _ _ _ (HB3.out.size) (fun _ => ⟨HB2.out.trans (HB3.out.mono (HS.out ▸ HS2.out)), fun _ => HB3.out, fun h => absurd h (by decide), ⟨_, _, rfl, hd1, hd2, OwnB.mono HO3.out (HS.out ▸ HS2.out)⟩⟩) (fun h => absurd h (by decide)) (by simp [setU, f24] <;> omega)
    · intro u w2 hb hS hG hF hU J K hJ hK
      have HB2 := Lib.hid hb
      have HS2 := Lib.hid hS
      have HG2 := Lib.hid hG
      have HF := Lib.hid hF
      clear hb hF hS hG hU
      have f4 : u 4 = .int .i64 s.src := HF.out 4 (by decide)
      have f9 : u 9 = .int .i64 s.dst := HF.out 9 (by decide)
      have f14 : u 14 = .int .i64 s.sp := HF.out 14 (by decide)
      have f19 : u 19 = .int .i64 s.dp := HF.out 19 (by decide)
      have f20 : u 20 = .int .u32 (at_ : Int) := HF.out 20 (by decide)
      have f21 : u 21 = .int .i64 (fl : Int) := HF.out 21 (by decide)
      have f23 : u 23 = .int .i64 (s.window : Int) := HF.out 23 (by decide)
      obtain ⟨R, d, f25, hd1, hd2, ho⟩ := HF.out 25 (by decide)
      have HO3 := Lib.hid ho; clear ho
      go_wp2
      exact hJ _ _ _ (Nat.le_refl _) (fun _ => ⟨HB2.out, fun h => absurd rfl h, fun _ => World.grownBy.refl _ _, ⟨_, _, rfl, hd1, hd2, HO3.out⟩⟩) (fun h => absurd h (by decide)) (by simp [setU, f4, f9, f14, f19, f20, f21, f23, f25] <;> omega)
    · intro u w2 hb hS hG hF hU J K hJ hK
      have HB2 := Lib.hid hb
      have HS2 := Lib.hid hS
      have HG2 := Lib.hid hG
      have HF := Lib.hid hF
      clear hb hF hS hG hU
      go_wp2
      exact hJ _ _ _ ((ext_alloc _ _).size) (fun _ => ⟨HB2.out.alloc (HS.out ▸ HS2.out) _, fun _ => ext_alloc _ _, fun h => absurd h (by decide), ⟨_, rfl, (HS.out ▸ HS2.out), BK.new _ _ _⟩⟩) (fun h => absurd h (by decide)) (by simp [setU] <;> omega)
    · intro u w2 hb hS hG hF hU J K hJ hK
      have HB2 := Lib.hid hb
      have HS2 := Lib.hid hS
      have HG2 := Lib.hid hG
      have HF := Lib.hid hF
      clear hb hF hS hG hU
      obtain ⟨R, d, f26, hd1, hd2, ho⟩ := HF.out 26 (by decide)
      obtain ⟨g, f27, hg1, hk⟩ := HF.out 27 (by decide)
      have HO3 := Lib.hid ho; have HK3 := Lib.hid hk; clear ho hk
      dsimp only
      rw [f26, f27]
      go_wp2_with ((with_reducible refine (?_ : wpList _ _ _ [_] _ _)); refine wpList_store_bk rfl 32 _ _ rfl g [.int .i64 s.src, .int .i64 s.dst, .int .i64 s.sp, .int .i64 s.dp, .int .u32 (at_ : Int), .int .u32 0, .int .i64 (fl : Int), .int .i64 (s.window : Int), .int .i64 0, .int .i64 0, .slice R n d] rfl rfl 32 _ HK3.out (infoP _ rfl) rfl (by simp [Value.oneCell']) ?_)
      intro w3 hk3 hg3 hz3
      have HI : Hid (∃ g R d, u 27 = .pointer (some ⟨g, 0, none⟩) ∧ S ≤ g ∧ n ≤ d ∧ d ≤ maxLen ∧ OwnB S 5 w3 (.slice R n d) data ∧ BK w3 g 32 [.int .i64 s.src, .int .i64 s.dst, .int .i64 s.sp, .int .i64 s.dp, .int .u32 (at_ : Int), .int .u32 0, .int .i64 (fl : Int), .int .i64 (s.window : Int), .int .i64 0, .int .i64 0, .slice R n d] ∧ Below S w w3) := Lib.hid ⟨g, R, d, f27, hg1, hd1, hd2, HO3.out.other hg3 (.inr (own_ne_bk HO3.out HK3.out (by decide))), hk3, below_grown HB2.out hg3 (HS.out ▸ HS2.out) hg1⟩
      have HZ3 := Lib.hid hz3
      clear hk3 hg3 hz3
      go_wp2
      exact hJ undef _ _ (Nat.le_of_eq HZ3.out.symm) (fun h => absurd rfl h) (fun _ => HI.out) (by simp [setU, f26, f27] <;> omega)
  · intro u w2 hS hFL
    have HS2 := Lib.hid hS
    have HFL := Lib.hid hFL
    clear hS hFL
    dsimp only
    obtain ⟨g, R, d, e27, hSg, hd1, hd2, ho, hk, hb⟩ := HFL.out
    rw [e27]
    have HO := Lib.hid ho
    have HK := Lib.hid hk
    have HB := Lib.hid hb
    clear HFL ho hk hb e27
    generalize u = ur0 at *
    have E2 := Lib.hid (flag2 fl hfl)
    have E1 := Lib.hid (flag1 fl hfl)
    obtain ⟨w5, rfl⟩ : ∃ w5, w5 = w2 := ⟨_, rfl⟩
    have hSw : S ≤ w5.heap.size := HS.out ▸ HS2.out
    have hgk : k ≠ g := by have := HS.out; omega
    obtain ⟨ak, hak⟩ : ∃ ak : Nat, (if fl / 2 % 2 = 1 then s.rnum s.rcv else 0) = ak := ⟨_, rfl⟩
    obtain ⟨og, hog⟩ : ∃ og : Int, (if fl % 2 = 1 then s.og else 0) = og := ⟨_, rfl⟩
    have HAK := Lib.hid hak
    have HOG := Lib.hid hog
    clear hak hog HS2
    go_upto_if 38 with fail
    go_cut [44] from 36 to 44 (fun _ wc => Hid (OwnB S 5 wc (.slice R n d) data ∧ BK wc g 32 [.int .i64 s.src, .int .i64 s.dst, .int .i64 s.sp, .int .i64 s.dp, .int .u32 (at_ : Int), .int .u32 (ak : Int), .int .i64 (fl : Int), .int .i64 (s.window : Int), .int .i64 0, .int .i64 0, .slice R n d] ∧ Below S w wc ∧ g < wc.heap.size))
    case first =>
      have c15 := (H.out.ext (HS.out.symm ▸ HB.out)).cellH 15 (by decide) (fun _ _ => rfl)
      have f5 := HK.out.frozen 5
      have g5 := HK.out.cell (i := 5) rfl
      have hgl := HK.out.lt
      by_cases hf : fl / 2 % 2 = 1
      · have HAK' : Hid (s.rnum s.rcv = ak) := Lib.hid (by rw [← HAK.out, if_pos hf])
        have e2 := E2.out
        rw [if_pos hf] at e2
        clear hf
        go_wp2_with fail
        go_meet
        case rel =>
          have hgr := grown_setCell w5 g 5 (.int .u32 (s.rnum s.rcv : Int))
          exact Lib.hid ⟨HO.out.other hgr (.inr (own_ne_bk HO.out HK.out (by decide))), by rw [← HAK'.out]; exact HK.out.set 5 _, below_grown HB.out hgr hSw hSg, by simpa [World.setCell] using hgl⟩
      · have HAK' : Hid (ak = 0) := Lib.hid (by rw [← HAK.out, if_neg hf])
        have e2 := E2.out
        rw [if_neg hf] at e2
        clear hf
        go_wp2_with fail
        go_meet
        case rel => exact Lib.hid ⟨HO.out, by rw [HAK'.out]; exact HK.out, HB.out, hgl⟩
    case rest =>
      obtain ⟨ho, hk, hb, hgl⟩ := hcut.out
      have HO := Lib.hid ho
      have HK := Lib.hid hk
      have HB := Lib.hid hb
      clear hcut ho hk hb
      obtain ⟨w6, rfl⟩ : ∃ w6, w6 = wc := ⟨_, rfl⟩
      have hSw6 : S ≤ w6.heap.size := by have := HB.out.size; rw [HS.out] at this; exact this
      go_upto_if 47 with fail
      go_cut [53] from 45 to 53 (fun _ wc => Hid (OwnB S 5 wc (.slice R n d) data ∧ BK wc g 32 [.int .i64 s.src, .int .i64 s.dst, .int .i64 s.sp, .int .i64 s.dp, .int .u32 (at_ : Int), .int .u32 (ak : Int), .int .i64 (fl : Int), .int .i64 (s.window : Int), .int .i64 0, .int .i64 og, .slice R n d] ∧ Below S w wc ∧ g < wc.heap.size))
      case first =>
        have c4 := (H.out.ext (HS.out.symm ▸ HB.out)).cellH 4 (by decide) (fun _ _ => rfl)
        have f9 := HK.out.frozen 9
        have g9 := HK.out.cell (i := 9) rfl
        by_cases hf : fl % 2 = 1
        · have HOG' : Hid (s.og = og) := Lib.hid (by rw [← HOG.out, if_pos hf])
          have e1 := E1.out
          rw [if_pos hf] at e1
          clear hf
          go_wp2_with fail
          go_meet
          case rel =>
            have hgr := grown_setCell w6 g 9 (.int .i64 s.og)
            exact Lib.hid ⟨HO.out.other hgr (.inr (own_ne_bk HO.out HK.out (by decide))), by rw [← HOG'.out]; exact HK.out.set 9 _, below_grown HB.out hgr hSw6 hSg, by simpa [World.setCell] using hgl⟩
        · have HOG' : Hid (og = 0) := Lib.hid (by rw [← HOG.out, if_neg hf])
          have e1 := E1.out
          rw [if_neg hf] at e1
          clear hf
          go_wp2_with fail
          go_meet
          case rel => exact Lib.hid ⟨HO.out, by rw [HOG'.out]; exact HK.out, HB.out, hgl⟩
      case rest =>
        obtain ⟨ho, hk, hb, hgl⟩ := hcut.out
        have HO := Lib.hid ho
        have HK := Lib.hid hk
        have HB := Lib.hid hb
        clear hcut ho hk hb
        obtain ⟨w7, rfl⟩ : ∃ w7, w7 = wc := ⟨_, rfl⟩
        have hSw7 : S ≤ w7.heap.size := by have := HB.out.size; rw [HS.out] at this; exact this
        obtain ⟨P, hP⟩ : ∃ P, s.mkp fl at_ data = P := ⟨_, rfl⟩
        have hpc : P.cs R n d = [.int .i64 s.src, .int .i64 s.dst, .int .i64 s.sp, .int .i64 s.dp, .int .u32 (at_ : Int), .int .u32 (ak : Int), .int .i64 (fl : Int), .int .i64 (s.window : Int), .int .i64 0, .int .i64 og, .slice R n d] := by rw [← hP, ← HAK.out, ← HOG.out]; rfl
        have hpd : P.data = data := by rw [← hP]; rfl
        have hpq : P.seq < 4294967296 := by rw [← hP]; exact hat
        have hpa : P.ack < 4294967296 := by
          rw [← hP]
          show (if fl / 2 % 2 = 1 then s.rnum s.rcv else 0) < 4294967296
          split
          · exact m32_lt _
          · decide
        have H7 : Hid (ConnIs N w7 k s vp) := Lib.hid (H.out.ext (HS.out.symm ▸ HB.out))
        obtain ⟨Z, hZ⟩ : ∃ Z, w7.heap.size = Z := ⟨_, rfl⟩
        have HZ := Lib.hid hZ
        have hvlt := H.out.lt.2
        rw [HS.out] at hvlt hlt
        have HROW : Hid (∀ b, vp.ownBlock = some b → b < Z) := Lib.hid fun b h => by have := hvlt b h; omega
        have HVS := Lib.hid hvlt
        have hkz : k < w7.heap.size := by omega
        have C2073 := Lib.hid H7.out.cellP
        have HKG : Hid (∀ W : World, Chg k vp w7 W → BK W g 32 [.int .i64 s.src, .int .i64 s.dst, .int .i64 s.sp, .int .i64 s.dp, .int .u32 (at_ : Int), .int .u32 (ak : Int), .int .i64 (fl : Int), .int .i64 (s.window : Int), .int .i64 0, .int .i64 og, .slice R n d]) := Lib.hid fun W hc => HK.out.same (hc.block g hgl (fun e => hgk e.symm) (fun e => by have := HVS.out g e; omega))
        have HI0 : Hid (Chg k vp w7 w7.drew ∧ w7.drew.heap[k]? = w7.heap[k]?) := Lib.hid ⟨(Chg.refl k vp w7).drew, rfl⟩
        have HCT : Hid (∀ W W' : World, Chg k vp w7 W → W.grownBy W' vp.ownBlock → Chg k vp w7 W') := Lib.hid fun W W' hc hg => by
          cases hb : vp.ownBlock with
          | none => rw [hb] at hg; exact hc.trans (Chg.below ⟨hg.os, hg.tape, hg.output, hg.size, fun i hi => hg.block i hi (by simp)⟩) (After.refl _ _)
          | some b => rw [hb] at hg; exact hc.trans (Chg.grown hg (.inr hb)) (After.refl _ _)
        have HPA : Hid (∀ (W W' : World) (v' : Value) (xs : List Value), Chg k vp w7 W → PkRow (NN N k vp) W s.pack xs → OwnB S 5 W (.slice R n d) data → (∀ b, vp.ownBlock = some b → ¬ N b ∧ b ≠ k) → W'.ownsRow 0 32 11 v' (s.pack.length + 1) (xs ++ [.int .i64 s.src, .int .i64 s.dst, .int .i64 s.sp, .int .i64 s.dp, .int .u32 (at_ : Int), .int .u32 (ak : Int), .int .i64 (fl : Int), .int .i64 (s.window : Int), .int .i64 0, .int .i64 og, .slice R n d]) → W.grownBy W' vp.ownBlock → (v'.ownBlock = vp.ownBlock ∨ v'.ownBlock = some W.heap.size) → PackAt N w7 k vp (s.pack ++ [P]) v' W') := Lib.hid fun W W' v' xs hc hx ho hnv hx3 hg3 hv3 => by
          have hzW := hc.size
          have hNS : ∀ b, NN N k vp b → b < S := fun b hb => by
            rcases hb with hb | hb | hb
            · have := HNN.out b hb; rw [HS.out] at this; exact this
            · omega
            · exact HVS.out b hb
          refine ⟨PackIs.append hx (by rw [hpd, HN.out]) (by rw [hpd]; exact SlN.of_own ho hNS) hpq hpa (fun b e => .inr (.inr e)) hg3 hv3 (by rw [hpc]; exact hx3) fun b hb => ?_, fun b e => ?_, fun b e => ?_⟩
          · rcases hb with hb | hb | hb
            · exact .inl (.inl hb)
            · exact .inl (.inr (.inl hb))
            · exact .inr hb
          · rcases hv3 with e3 | e3
            · exact hnv b (e3 ▸ e)
            · rw [e3] at e
              have := Option.some.inj e
              subst this
              refine ⟨fun hb => ?_, by omega⟩
              have := HNN.out _ hb
              rw [HS.out] at this
              omega
          · rcases hv3 with e3 | e3
            · exact .inl (e3 ▸ e)
            · rw [e3] at e
              have := Option.some.inj e
              exact .inr (by omega)
        have HFIN : Hid (∀ (W : World) (v : Value), Chg k vp w7 W → W.heap[k]? = w7.heap[k]? → PackAt N w7 k vp (s.pack ++ [P]) v W → ∃ v1, ConnIs N (W.setCell ⟨k, 2073, none⟩ v) k (s.emit fl at_ data) v1 ∧ Chg k vp w7 (W.setCell ⟨k, 2073, none⟩ v) ∧ After w7 vp v1) := Lib.hid fun W v hc hk hp => by
          refine ⟨v, H7.out.setP (s.emit fl at_ data) v (by show PackIs _ _ _ (s.pack ++ [s.mkp fl at_ data]); rw [hP]; exact hp.1) hp.2.1 hc hk hp.2.2 (fun _ _ => rfl) (fun _ _ => rfl) rfl rfl rfl (fun e => ⟨e, rfl⟩), hc.trans (Chg.grown (grown_setCell _ _ _ _) (.inl rfl)) (After.refl _ _), hp.2.2⟩
        clear hZ hvlt hpc hpd hpq hpa hP E1 E2
        go_upto_region 5 with fail
        refine wp_region_fin [[], [], [1], [1, 2], [1, 2, 3], [], [5], [1, 2, 3, 4, 5, 6], [0, 1, 2, 3, 4, 5, 6, 7], [0, 1, 2, 3, 4, 5, 6, 7, 8], [0, 1, 2, 3, 4, 5, 6, 7, 8, 9]]
          [fun u _ => u = .pointer (some ⟨k, 0, none⟩),
           fun u _ => u = .pointer (some ⟨k, 0, none⟩),
           fun u _ => u = .pointer (some ⟨k, 0, none⟩),
           fun u _ => u = .pointer (some ⟨k, 2073, none⟩),
           fun u _ => u = vp,
           fun u _ => u = .agg #[.int .i64 s.src, .int .i64 s.dst, .int .i64 s.sp, .int .i64 s.dp, .int .u32 (at_ : Int), .int .u32 (ak : Int), .int .i64 (fl : Int), .int .i64 (s.window : Int), .int .i64 0, .int .i64 og, .slice R n d],
           fun u w => SlPk Z [.int .i64 s.src, .int .i64 s.dst, .int .i64 s.sp, .int .i64 s.dp, .int .u32 (at_ : Int), .int .u32 (ak : Int), .int .i64 (fl : Int), .int .i64 (s.window : Int), .int .i64 0, .int .i64 og, .slice R n d] u w,
           fun u w => PackAt N w7 k vp (s.pack ++ [P]) u w,
           fun u _ => u = .pointer (some ⟨k, 0, none⟩),
           fun u _ => u = .pointer (some ⟨k, 2073, none⟩)]
          (fun u => ⟨#[Value.pointer (some { block := k, off := 0 }), Value.int IntKind.i64 (fl : Int), Value.int IntKind.u32 (at_ : Int), Value.slice D n c, undef, undef, undef, undef, Value.pointer (some { block := g, off := 0 }), ur0 0, ur0 1, ur0 2, ur0 3, ur0 4, ur0 5, ur0 6, ur0 7, ur0 8, ur0 9, ur0 10, ur0 11, ur0 12, ur0 13, ur0 14, ur0 15, ur0 16, ur0 17, ur0 18, ur0 19, ur0 20, ur0 21, ur0 22, ur0 23, ur0 24, ur0 25, ur0 26, u36, u37, u38, u39, u40, u41, u42, u43, u44, u45, u46, u47, u48, u49, u50, u51, u52, u53, u 0, u 1, u 2, u 3, u 4, u 5, u 6, u 7, u 8, u 9], []⟩)
          (fun W => Chg k vp w7 W ∧ W.heap[k]? = w7.heap[k]?) (fun W => ConnIs N W k s vp ∧ OwnB S 5 W (.slice R n d) data) vp.ownBlock 7 10 (fun _ W => ∃ v1, ConnIs N W k (s.emit fl at_ data) v1 ∧ Chg k vp w7 W ∧ After w7 vp v1) (fun j => [undef, undef, undef, undef, undef, undef, undef, undef, undef, undef, undef].getD j undef) (by kernel_rfl) (by kernel_rfl) (by kernel_rfl) rfl (by kernel_rfl) (Nat.le_of_eq rfl) ⟨Mono.eq _, Mono.eq _, Mono.eq _, Mono.eq _, Mono.eq _, Mono.eq _, SlPk.mono _ _, PackAt.mono _ _ _ _ _, Mono.eq _, Mono.eq _, trivial⟩ ⟨.inr (.inr (MonoRow.eq _ _)), ⟨.inr (.inr (MonoRow.eq _ _)), ⟨.inr (.inr (MonoRow.eq _ _)), ⟨.inr (.inr (MonoRow.eq _ _)), ⟨.inr (.inr (MonoRow.eq _ _)), ⟨.inr (.inr (MonoRow.eq _ _)), ⟨.inr (.inr (SlPk.monoRow _ HROW.out)), ⟨.inl rfl, ⟨.inr (.inr (MonoRow.eq _ _)), ⟨.inr (.inr (MonoRow.eq _ _)), trivial⟩⟩⟩⟩⟩⟩⟩⟩⟩⟩
          (fun _ _ h1 h2 => ⟨h2.1.ext h1, h2.2.ext h1⟩) (fun _ _ _ h => h) (HI0.out) (⟨H7.out, HO.out⟩) ?_ ?_
        · refine ⟨?_, ?_, ?_, ?_, ?_, ?_, ?_, ?_, ?_, ?_, ?_, trivial⟩
          · intro u w2 hb hS hG hF hU J K hJ hK
            have HB2 := Lib.hid hb
            have HS2 := Lib.hid hS
            have HG2 := Lib.hid hG
            have HF := Lib.hid hF
            clear hb hF hS hG hU
            go_wp2
            exact hJ _ _ _ (Nat.le_refl _) (fun _ => ⟨HB2.out, fun _ => Below.refl _ _, fun h => absurd h (by decide), rfl⟩) (fun h => absurd h (by decide)) (by simp [setU] <;> omega)
          · intro u w2 hb hS hG hF hU J K hJ hK
            have HB2 := Lib.hid hb
            have HS2 := Lib.hid hS
            have HG2 := Lib.hid hG
            have HF := Lib.hid hF
            clear hb hF hS hG hU
            go_wp2
            exact hJ _ _ _ (Nat.le_refl _) (fun _ => ⟨HB2.out, fun _ => Below.refl _ _, fun h => absurd h (by decide), rfl⟩) (fun h => absurd h (by decide)) (by simp [setU] <;> omega)
          · intro u w2 hb hS hG hF hU J K hJ hK
            have HB2 := Lib.hid hb
            have HS2 := Lib.hid hS
            have HG2 := Lib.hid hG
            have HF := Lib.hid hF
            clear hb hF hS hG hU
            have f1 : u 1 = .pointer (some ⟨k, 0, none⟩) := HF.out 1 (by decide)
            go_wp2
            exact hJ _ _ _ (Nat.le_refl _) (fun _ => ⟨HB2.out, fun _ => Below.refl _ _, fun h => absurd h (by decide), rfl⟩) (fun h => absurd h (by decide)) (by simp [setU, f1] <;> omega)
          · intro u w2 hb hS hG hF hU J K hJ hK
            have HB2 := Lib.hid hb
            have HS2 := Lib.hid hS
            have HG2 := Lib.hid hG
            have HF := Lib.hid hF
            clear hb hF hS hG hU
            have f2 : u 2 = .pointer (some ⟨k, 0, none⟩) := HF.out 2 (by decide)
            go_wp2
            exact hJ _ _ _ (Nat.le_refl _) (fun _ => ⟨HB2.out, fun _ => Below.refl _ _, fun h => absurd h (by decide), rfl⟩) (fun h => absurd h (by decide)) (by simp [setU, f2] <;> omega)
          · intro u w2 hb hS hG hF hU J K hJ hK
            have HB2 := Lib.hid hb
            have HS2 := Lib.hid hS
            have HG2 := Lib.hid hG
            have HF := Lib.hid hF
            clear hb hF hS hG hU
            have f3 : u 3 = .pointer (some ⟨k, 2073, none⟩) := HF.out 3 (by decide)
            have cc := (cell_same HB2.out.2 2073).trans C2073.out
            go_wp2
            exact hJ _ _ _ (Nat.le_refl _) (fun _ => ⟨HB2.out, fun _ => Below.refl _ _, fun h => absurd h (by decide), rfl⟩) (fun h => absurd h (by decide)) (by simp [setU, f3] <;> omega)
          · intro u w2 hb hS hG hF hU J K hJ hK
            have HB2 := Lib.hid hb
            have HS2 := Lib.hid hS
            have HG2 := Lib.hid hG
            have HF := Lib.hid hF
            clear hb hF hS hG hU
            have HKW := Lib.hid (HKG.out w2 HB2.out.1)
            have q0 := HKW.out.cell (i := 0) rfl
            have q1 := HKW.out.cell (i := 1) rfl
            have q2 := HKW.out.cell (i := 2) rfl
            have q3 := HKW.out.cell (i := 3) rfl
            have q4 := HKW.out.cell (i := 4) rfl
            have q5 := HKW.out.cell (i := 5) rfl
            have q6 := HKW.out.cell (i := 6) rfl
            have q7 := HKW.out.cell (i := 7) rfl
            have q8 := HKW.out.cell (i := 8) rfl
            have q9 := HKW.out.cell (i := 9) rfl
            have q10 := HKW.out.cell (i := 10) rfl
            go_wp2
            exact hJ _ _ _ (Nat.le_refl _) (fun _ => ⟨HB2.out, fun _ => Below.refl _ _, fun h => absurd h (by decide), rfl⟩) (fun h => absurd h (by decide)) (by simp [setU] <;> omega)
          · intro u w2 hb hS hG hF hU J K hJ hK
            have HB2 := Lib.hid hb
            have HS2 := Lib.hid hS
            have HG2 := Lib.hid hG
            have HF := Lib.hid hF
            clear hb hF hS hG hU
            have f5 : u 5 = .agg #[.int .i64 s.src, .int .i64 s.dst, .int .i64 s.sp, .int .i64 s.dp, .int .u32 (at_ : Int), .int .u32 (ak : Int), .int .i64 (fl : Int), .int .i64 (s.window : Int), .int .i64 0, .int .i64 og, .slice R n d] := HF.out 5 (by decide)
            go_wp2
            exact hJ _ _ _ ((ext_alloc _ _).size) (fun _ => ⟨⟨HB2.out.1.trans (Chg.below (ext_alloc _ _)) (After.refl _ _), ((ext_alloc w2 _).block k (by have := HB2.out.1.size; omega)).trans HB2.out.2⟩, fun _ => ext_alloc _ _, fun h => absurd h (by decide), ⟨_, rfl, HZ.out ▸ HB2.out.1.size, BK.new _ _ _⟩⟩) (fun h => absurd h (by decide)) (by simp [setU, f5] <;> omega)
          · intro u w2 hb hS hG hF hU J K hJ hK
            have HB2 := Lib.hid hb
            have HS2 := Lib.hid hS
            have HG2 := Lib.hid hG
            have HF := Lib.hid hF
            clear hb hF hS hG hU
            have f4 : u 4 = vp := HF.out 4 (by decide)
            obtain ⟨b6, f6, hz6, hk6⟩ := HF.out 6 (by decide)
            have HK6 := Lib.hid hk6
            obtain ⟨hcn, hod⟩ := HG2.out rfl
            obtain ⟨vo, vi, fe, eh, _, _, _, _, _, _, ⟨xs, hx1, hx2⟩, hnk, hnv⟩ := hcn
            have HX1 := Lib.hid hx1
            have HX2 := Lib.hid hx2
            have HOD := Lib.hid hod
            have HNV := Lib.hid hnv
            obtain ⟨i0, hi0, hz0, hz1, hz2⟩ := info_parts infoPk
            clear hk6 hx1 hx2 hod hnv
            dsimp only
            rw [f4, f6]
            refine wpList_append_own_at w2 rfl _ _ 36 rfl 0 32 i0 (.agg zeroCs.toArray) 11 96 Try.underlying36 hi0 hz0 hz1 hz2 rfl (by decide) vp s.pack.length xs rfl HX1.out ⟨b6, 0, none⟩ 1 1 [.int .i64 s.src, .int .i64 s.dst, .int .i64 s.sp, .int .i64 s.dp, .int .u32 (at_ : Int), .int .u32 (ak : Int), .int .i64 (fl : Int), .int .i64 (s.window : Int), .int .i64 0, .int .i64 og, .slice R n d] rfl rfl (fun j u hj => by rw [add_pl, Nat.zero_add]; exact HK6.out.cell hj) (by simp [Value.oneCell']) (by unfold maxLen; omega) (by omega) (Nat.zero_le _) ?_
            intro v3 w3 hx3 hg3 _ hv3
            have HP3 : Hid (PackAt N w7 k vp (s.pack ++ [P]) v3 w3) := Lib.hid (HPA.out w2 w3 v3 xs HB2.out.1 HX2.out HOD.out HNV.out hx3 hg3 hv3)
            have HI3 : Hid (Chg k vp w7 w3 ∧ w3.heap[k]? = w7.heap[k]?) := Lib.hid ⟨HCT.out w2 w3 HB2.out.1 hg3, (hg3.block k (by have := HB2.out.1.size; omega) (fun e => (HNV.out k e.symm).2 rfl)).trans HB2.out.2⟩
            have HG3 := Lib.hid hg3
            clear hx3 hg3 hv3
            go_wp2
            exact hJ _ _ _ (HG3.out.size) (fun _ => ⟨HI3.out, fun h => absurd rfl h, fun _ => HG3.out, HP3.out⟩) (fun h => absurd h (by decide)) (by simp [setU, f4, f6] <;> omega)
          · intro u w2 hb hS hG hF hU J K hJ hK
            have HB2 := Lib.hid hb
            have HS2 := Lib.hid hS
            have HG2 := Lib.hid hG
            have HF := Lib.hid hF
            clear hb hF hS hG hU
            have f0 : u 0 = .pointer (some ⟨k, 0, none⟩) := HF.out 0 (by decide)
            go_wp2
            exact hJ _ _ _ (Nat.le_refl _) (fun _ => ⟨HB2.out, fun _ => Below.refl _ _, fun h => absurd h (by decide), rfl⟩) (fun h => absurd h (by decide)) (by simp [setU, f0] <;> omega)
          · intro u w2 hb hS hG hF hU J K hJ hK
            have HB2 := Lib.hid hb
            have HS2 := Lib.hid hS
            have HG2 := Lib.hid hG
            have HF := Lib.hid hF
            clear hb hF hS hG hU
            have f8 : u 8 = .pointer (some ⟨k, 0, none⟩) := HF.out 8 (by decide)
            go_wp2
            exact hJ _ _ _ (Nat.le_refl _) (fun _ => ⟨HB2.out, fun _ => Below.refl _ _, fun h => absurd h (by decide), rfl⟩) (fun h => absurd h (by decide)) (by simp [setU, f8] <;> omega)
          · intro u w2 hb hS hG hF hU J K hJ hK
            have HB2 := Lib.hid hb
            have HS2 := Lib.hid hS
            have HG2 := Lib.hid hG
            have HF := Lib.hid hF
            clear hb hF hS hG hU
            have f9 : u 9 = .pointer (some ⟨k, 2073, none⟩) := HF.out 9 (by decide)
            have hp7 := HF.out 7 (by decide)
            obtain ⟨A7, m7, c7, f7⟩ := PackIs.form' hp7.1
            have HP7 : Hid (PackAt N w7 k vp (s.pack ++ [P]) (u 7) w2) := Lib.hid hp7
            rw [f7] at HP7
            have cc := (cell_same HB2.out.2 2073).trans C2073.out
            have ff := (frozen_same HB2.out.2 2073).trans (H7.out.frozen 2073)
            clear hp7
            dsimp only
            rw [f7, f9]
            go_wp2
            exact hJ undef _ _ ((by simp [World.setCell])) (fun h => absurd rfl h) (fun _ => HFIN.out w2 _ HB2.out.1 HB2.out.2 HP7.out) (by simp [setU, f7, f9] <;> omega)
        · intro u w2 hS hFL
          have HS2 := Lib.hid hS
          have HFL := Lib.hid hFL
          clear hS hFL
          obtain ⟨v1, hv1, hc1, ha1⟩ := HFL.out
          have HC1 := Lib.hid hv1
          have HG1 := Lib.hid hc1
          have HA1 := Lib.hid ha1
          clear HFL hv1 hc1 ha1
          dsimp only
          go_wp2_with fail
          go_end0
          exact ⟨v1, rfl, HC1.out, (Chg.below (HS.out.symm ▸ HB.out)).trans HG1.out (After.refl _ _), HA1.out.earlier (HS.out ▸ HB.out).size⟩
end Go.Proofs.Ytjhnnnklfhbebaa
namespace Go.Proofs.Ytjhnnnklfhbebaa
open Go.RowKit
set_option linter.unusedVariables false
set_option linter.unusedSimpArgs false

theorem sd_num (i a b : Nat) (h1 : (a : Int) - b < 2147483648) (h2 : -2147483648 ≤ (a : Int) - b) : sd (m32 (i + a)) (m32 (i + b)) = (a : Int) - b := by unfold sd m32; omega
theorem most_num (i a b : Nat) (h1 : (a : Int) - b < 2147483648) (h2 : -2147483648 ≤ (a : Int) - b) : mostN (m32 (i + a)) (m32 (i + b)) = m32 (i + max b a) := by
  unfold mostN
  rw [sd_num i a b h1 h2]
  by_cases h : 0 < (a : Int) - b
  · rw [if_pos h, Nat.max_eq_right (by omega)]
  · rw [if_neg h, Nat.max_eq_left (by omega)]
/-- The bounds under which a call is walked. -/
structure TS.Bd (s : TS) : Prop where
  inn : s.inn.length ≤ 1024
  out : s.out.length ≤ 1024
  pack : s.pack.length ≤ 900000
  irs : s.irs < 4294967296
  iss : s.iss < 4294967296
section
variable {N : Nat → Prop} {w : World} {k : Nat} {s : TS} {vp : Value}
theorem ack_calls (h : ConnIs N w k s vp) (hN : ∀ b, N b → b < w.heap.size) (hb : s.Bd) :
    Calls Try.prog 79 #[.pointer (some ⟨k, 0, none⟩)] w (Did N w k vp s.ack (.tuple #[])) := by
  have H := Lib.hid h
  have HN := Lib.hid hN
  have c8 := h.cellH 8 (by decide) (fun _ _ => rfl)
  have hm := m32_lt (s.iss + s.top)
  have HE := Lib.hid (fun (W : World) (h : ConnIs N W k s vp) (hN : ∀ b, N b → b < W.heap.size) => emit_calls W k s vp h hN hb.inn (by have := hb.pack; omega) hb.irs 2 (by omega) (s.num s.top) hm none 0 0 [] rfl (RB.nil _ _) (by omega))
  clear h hN
  go_enter Try.func79, Try.ntmps79
  go_wp2_with fail
  refine (HE.out w H.out HN.out).mono ?_
  rintro e w1 ⟨vp1, rfl, h1, hc1, ha1⟩
  have H1 := Lib.hid h1
  have HC := Lib.hid hc1
  have HA := Lib.hid ha1
  clear h1 hc1 ha1
  go_wp2_with fail
  go_end0
  exact ⟨vp1, rfl, H1.out, HC.out, HA.out⟩
theorem syn_calls (h : ConnIs N w k s vp) (hN : ∀ b, N b → b < w.heap.size) (hb : s.Bd) :
    Calls Try.prog 42 #[.pointer (some ⟨k, 0, none⟩)] w (Did N w k vp s.syn (.tuple #[])) := by
  have H := Lib.hid h
  have HN := Lib.hid hN
  have c5 := h.cellH 5 (by decide) (fun _ _ => rfl)
  have c2069 := h.cellT 4 (fun _ _ => rfl) 2069 rfl
  have hm := hb.iss
  have HE := Lib.hid (fun (fl : Nat) (hfl : fl ≤ 15) (W : World) (h : ConnIs N W k s vp) (hN : ∀ b, N b → b < W.heap.size) => emit_calls W k s vp h hN hb.inn (by have := hb.pack; omega) hb.irs fl hfl s.iss hm none 0 0 [] rfl (RB.nil _ _) (by omega))
  by_cases h1 : s.state = 1
  · have HS : Hid (s.syn = s.emit 1 s.iss []) := Lib.hid (by unfold TS.syn; rw [if_pos h1])
    rw [h1] at c2069
    clear h hN h1
    go_enter Try.func42, Try.ntmps42
    go_wp2_with fail
    refine (HE.out 1 (by omega) w H.out HN.out).mono ?_
    rintro e w1 ⟨vp1, rfl, h1, hc1, ha1⟩
    have H1 := Lib.hid h1
    have HC := Lib.hid hc1
    have HA := Lib.hid ha1
    clear h1 hc1 ha1
    go_wp2_with fail
    go_end0
    exact ⟨vp1, rfl, by rw [HS.out]; exact H1.out, HC.out, HA.out⟩
  · have HS : Hid (s.syn = s.emit 3 s.iss []) := Lib.hid (by unfold TS.syn; rw [if_neg h1])
    have e1 : ((s.state : Int) == 1) = false := beq_eq_false_iff_ne.2 (by omega)
    clear h hN h1
    go_enter Try.func42, Try.ntmps42
    go_wp2_with fail
    refine (HE.out 3 (by omega) w H.out HN.out).mono ?_
    rintro e w1 ⟨vp1, rfl, h1, hc1, ha1⟩
    have H1 := Lib.hid h1
    have HC := Lib.hid hc1
    have HA := Lib.hid ha1
    clear h1 hc1 ha1
    go_wp2_with fail
    go_end0
    exact ⟨vp1, rfl, by rw [HS.out]; exact H1.out, HC.out, HA.out⟩
theorem reset_calls (h : ConnIs N w k s vp) :
    Calls Try.prog 77 #[.pointer (some ⟨k, 0, none⟩)] w fun e w' => e = .returned (.tuple #[]) ∧ ConnIs N w' k s.reset vp ∧ Chg k vp w w' := by
  have h1 := h.setT { s with state := 5 } 4 2069 rfl (.int .i64 5) (fun _ _ => rfl) (fun _ _ => rfl) rfl rfl rfl rfl (fun e => ⟨e, rfl⟩)
  have h2 := h1.setO { s with state := 5, out := [] } (.slice none 0 0) (SlN.nil _ _) (fun _ _ => rfl) (fun _ _ => rfl) rfl rfl rfl (fun e => ⟨e, rfl⟩)
  have h3 := h2.setI { s with state := 5, out := [], inn := [] } (.slice none 0 0) (SlN.nil _ _) (fun _ _ => rfl) (fun _ _ => rfl) rfl rfl rfl (fun e => ⟨e, rfl⟩)
  have c1 := h.cellT 4 (fun _ _ => rfl) 2069 rfl
  obtain ⟨A, c, c9, _⟩ := h.cellO
  obtain ⟨A2, c2, c16, _⟩ := h.cellI
  have f1 := h.frozen 2069
  have f2 := h.frozen 9
  have f3 := h.frozen 16
  have HR := Lib.hid h3
  have HC : Hid (Chg k vp w (((w.setCell ⟨k, 2069, none⟩ (.int .i64 5)).setCell ⟨k, 9, none⟩ (.slice none 0 0)).setCell ⟨k, 16, none⟩ (.slice none 0 0))) :=
    Lib.hid (((Chg.grown (grown_setCell _ _ _ _) (.inl rfl)).trans (Chg.grown (grown_setCell _ _ _ _) (.inl rfl)) (After.refl _ _)).trans (Chg.grown (grown_setCell _ _ _ _) (.inl rfl)) (After.refl _ _))
  clear h h1 h2 h3
  go_enter Try.func77, Try.ntmps77
  go_wp2_with fail
  go_end0
  exact ⟨rfl, HR.out, HC.out⟩
theorem abort_calls (h : ConnIs N w k s vp) (hN : ∀ b, N b → b < w.heap.size) (hb : s.Bd) :
    Calls Try.prog 30 #[.pointer (some ⟨k, 0, none⟩)] w (Did N w k vp s.abort (.tuple #[])) := by
  have H := Lib.hid h
  have HN := Lib.hid hN
  have c8 := h.cellH 8 (by decide) (fun _ _ => rfl)
  have c2069 := h.cellT 4 (fun _ _ => rfl) 2069 rfl
  have hm := m32_lt (s.iss + s.top)
  have HM := Lib.hid (made_calls w k s vp h)
  have HE := Lib.hid (fun (W : World) (h : ConnIs N W k s vp) (hN : ∀ b, N b → b < W.heap.size) => emit_calls W k s vp h hN hb.inn (by have := hb.pack; omega) hb.irs 10 (by omega) (s.num s.top) hm none 0 0 [] rfl (RB.nil _ _) (by omega))
  have HAB : Hid (s.abort = if s.dead = true then s else (if s.state = 1 then s else s.emit 10 (s.num s.top) []).reset) := Lib.hid rfl
  have HDD : Hid (s.dead = decide (s.state = 0 ∨ s.state = 4 ∨ s.state = 5)) := Lib.hid rfl
  clear h hN
  obtain ⟨st, hst⟩ : ∃ st, s.state = st := ⟨_, rfl⟩
  rw [hst] at c2069 HM HAB HDD
  clear hst
  by_cases h0 : st = 0
  · have HX : Hid (s.abort = s) := Lib.hid (by rw [HAB.out, HDD.out, if_pos (decide_eq_true (.inl h0))])
    subst h0
    go_enter Try.func30, Try.ntmps30
    go_wp2_with fail
    refine HM.out.mono ?_
    rintro e w1 ⟨rfl, rfl⟩
    go_wp2_with fail
    go_end0
    exact ⟨vp, rfl, by rw [HX.out]; exact H.out, Chg.refl _ _ _, After.refl _ _⟩
  · have d0 : decide (st ≠ 0) = true := decide_eq_true h0
    rw [d0] at HM
    clear d0
    by_cases h4 : st = 4 ∨ st = 5
    · have HX : Hid (s.abort = s) := Lib.hid (by rw [HAB.out, HDD.out, if_pos (decide_eq_true (.inr h4))])
      rcases h4 with rfl | rfl
      all_goals
        go_enter Try.func30, Try.ntmps30
        go_wp2_with fail
        refine HM.out.mono ?_
        rintro e w1 ⟨rfl, rfl⟩
        go_wp2_with fail
        go_end0
        exact ⟨vp, rfl, by rw [HX.out]; exact H.out, Chg.refl _ _ _, After.refl _ _⟩
    · have HND : Hid (s.abort = (if st = 1 then s else s.emit 10 (s.num s.top) []).reset) := Lib.hid (by rw [HAB.out, HDD.out, if_neg (by simp; omega)])
      have e4 : ((st : Int) == 4) = false := beq_eq_false_iff_ne.2 (by omega)
      have e5 : ((st : Int) == 5) = false := beq_eq_false_iff_ne.2 (by omega)
      clear h4 h0
      by_cases h1 : st = 1
      · have HX : Hid (s.abort = s.reset) := Lib.hid (by rw [HND.out, if_pos h1])
        subst h1
        have HRS := Lib.hid (reset_calls H.out)
        go_enter Try.func30, Try.ntmps30
        go_wp2_with fail
        refine HM.out.mono ?_
        rintro e w1 ⟨rfl, rfl⟩
        go_wp2_with fail
        refine HRS.out.mono ?_
        rintro e w1 ⟨rfl, hr, hc⟩
        have HR1 := Lib.hid hr
        have HC1 := Lib.hid hc
        clear hr hc
        go_wp2_with fail
        go_end0
        exact ⟨vp, rfl, by rw [HX.out]; exact HR1.out, HC1.out, After.refl _ _⟩
      · have HX : Hid (s.abort = (s.emit 10 (s.num s.top) []).reset) := Lib.hid (by rw [HND.out, if_neg h1])
        have e1 : ((st : Int) == 1) = false := beq_eq_false_iff_ne.2 (by omega)
        have e1' : ((st : Int) != 1) = true := by simp; omega
        clear h1
        go_enter Try.func30, Try.ntmps30
        go_wp2_with fail
        refine HM.out.mono ?_
        rintro e w1 ⟨rfl, rfl⟩
        go_wp2_with fail
        refine (HE.out w H.out HN.out).mono ?_
        rintro e w1 ⟨vp1, rfl, h1, hc1, ha1⟩
        have HRS := Lib.hid (reset_calls h1)
        have HC := Lib.hid hc1
        have HA := Lib.hid ha1
        clear h1 hc1 ha1
        go_wp2_with fail
        refine HRS.out.mono ?_
        rintro e w2 ⟨rfl, hr, hc⟩
        have HR1 := Lib.hid hr
        have HC1 := Lib.hid hc
        clear hr hc
        go_wp2_with fail
        go_end0
        exact ⟨vp1, rfl, by rw [HX.out]; exact HR1.out, HC.out.trans HC1.out HA.out, HA.out⟩
end
end Go.Proofs.Ytjhnnnklfhbebaa
namespace Go.Proofs.Ytjhnnnklfhbebaa
open Go.RowKit
set_option linter.unusedVariables false
set_option linter.unusedSimpArgs false
section
variable {N : Nat → Prop} {w : World} {k : Nat} {s : TS} {vp : Value}
set_option maxHeartbeats 1000000 in
theorem on_calls (h : ConnIs N w k s vp) (n : Nat) (hn : n ≤ 100000) (h1 : s.nxt ≤ s.top) (h2 : s.top ≤ s.nxt + 100000) :
    Calls Try.prog 99 #[.pointer (some ⟨k, 0, none⟩), .int .i64 (n : Int)] w fun e w' => e = .returned (.tuple #[]) ∧ ConnIs N w' k (s.on n) vp ∧ Chg k vp w w' := by
  have H := Lib.hid h
  have c7 := h.cellH 7 (by decide) (fun _ _ => rfl)
  have f7 := h.frozen 7
  have HD1 := Lib.hid (add_calls (s.num s.nxt) n (m32_lt _) (by omega))
  have hadd : m32 (s.num s.nxt + n) = s.num (s.nxt + n) := by unfold TS.num m32; omega
  rw [hadd] at HD1
  have hs1 := h.setH { s with nxt := s.nxt + n } 7 (by decide) (.int .u32 (s.num (s.nxt + n) : Int)) (fun _ _ => rfl) (fun _ _ => rfl) rfl rfl rfl rfl (fun e => ⟨e, rfl⟩)
  have hc1 : Chg k vp w (w.setCell ⟨k, 7, none⟩ (.int .u32 (s.num (s.nxt + n) : Int))) := Chg.grown (grown_setCell _ _ _ _) (.inl rfl)
  have H1 := Lib.hid hs1
  have HC1 := Lib.hid hc1
  have hmo := most_num s.iss (s.nxt + n) s.top (by omega) (by omega)
  rw [show m32 (s.iss + (s.nxt + n)) = s.num (s.nxt + n) from rfl, show m32 (s.iss + s.top) = s.num s.top from rfl, show m32 (s.iss + max s.top (s.nxt + n)) = s.num (max s.top (s.nxt + n)) from rfl] at hmo
  have ha := m32_lt (s.iss + (s.nxt + n))
  have hb := m32_lt (s.iss + s.top)
  rw [show m32 (s.iss + (s.nxt + n)) = s.num (s.nxt + n) from rfl] at ha
  rw [show m32 (s.iss + s.top) = s.num s.top from rfl] at hb
  have HMO := Lib.hid hmo
  have HFIN : Hid (∀ W : World, ConnIs N W k { s with nxt := s.nxt + n } vp → ConnIs N (W.setCell ⟨k, 8, none⟩ (.int .u32 (s.num (max s.top (s.nxt + n)) : Int))) k (s.on n) vp) := Lib.hid fun W hW =>
    hW.setH (s.on n) 8 (by decide) _ (fun _ _ => rfl) (fun _ _ => rfl) rfl rfl rfl rfl (fun e => ⟨e, rfl⟩)
  obtain ⟨a, hae⟩ : ∃ a, s.num (s.nxt + n) = a := ⟨_, rfl⟩
  obtain ⟨b, hbe⟩ : ∃ b, s.num s.top = b := ⟨_, rfl⟩
  obtain ⟨m, hme⟩ : ∃ m, s.num (max s.top (s.nxt + n)) = m := ⟨_, rfl⟩
  rw [hae] at HD1 H1 HC1 HMO ha
  rw [hbe, hme] at HMO
  rw [hbe] at hb
  rw [hme] at HFIN
  have c8 := H1.out.cellH 8 (by decide) (fun _ _ => rfl)
  rw [show ({ s with nxt := s.nxt + n } : TS).num s.top = s.num s.top from rfl, hbe] at c8
  have c7' := H1.out.cellH 7 (by decide) (fun _ _ => rfl)
  rw [show ({ s with nxt := s.nxt + n } : TS).num (s.nxt + n) = s.num (s.nxt + n) from rfl, hae] at c7'
  have f8 := H1.out.frozen 8
  have hkl := h.lt.1
  clear h hs1 hc1 hmo hadd hae hbe hme h1 h2
  go_enter Try.func99, Try.ntmps99
  go_wp2_with fail
  refine (HD1.out _).mono ?_
  rintro e w1 ⟨rfl, rfl⟩
  go_upto_region 1 with fail
  refine name_world (fun W => ConnIs N W k { s with nxt := s.nxt + n } vp ∧ Chg k vp w W ∧ W.cell? ⟨k, 8, none⟩ = some (.int .u32 (b : Int)) ∧ W.cell? ⟨k, 7, none⟩ = some (.int .u32 (a : Int)) ∧ W.frozen? ⟨k, 8, none⟩ = false) ⟨H1.out, HC1.out, c8, c7', f8⟩ ?_
  clear H1 HC1 c8 c7' f8 c7 f7 hkl
  rintro w2 ⟨h2, hc2, c8, c7, f8⟩
  have hkl := h2.lt.1
  have H2 := Lib.hid h2
  have HC2 := Lib.hid hc2
  clear h2 hc2
  have HMC : Hid (∀ (W : World) (g : Nat), W.cell? ⟨g, 0, none⟩ = some (.int .u32 (a : Int)) → Calls Try.prog 109 #[.int .u32 (b : Int), .slice (some ⟨g, 0, none⟩) 1 1] W fun e w' => e = .returned (.int .u32 (m : Int)) ∧ W = w') := Lib.hid fun W g hc => by
    have := most_calls b a g hb ha W hc
    rw [HMO.out] at this
    exact this
  go_region_with (go_at_call 109; refine (HMC.out _ _ (by simp)).mono ?_; rintro e w3 ⟨rfl, rfl⟩)
  all_goals
    go_wp2_with fail
    go_end0
    exact ⟨rfl, (HFIN.out _ H2.out).ext (ext_trans (ext_alloc _ _) (Below.refl _ _).drew), (HC2.out.trans (Chg.grown (grown_setCell _ _ _ _) (.inl rfl)) (After.refl _ _)).trans ((Chg.below (ext_alloc _ _)).drew) (After.refl _ _)⟩
end
end Go.Proofs.Ytjhnnnklfhbebaa
namespace Go.Proofs.Ytjhnnnklfhbebaa
open Go.RowKit
set_option linter.unusedVariables false
set_option linter.unusedSimpArgs false
/-- What goes out stands as it must. -/
structure TS.Sn (s : TS) : Prop where
  a : s.una ≤ s.nxt
  b : s.nxt ≤ s.top
  c : s.top ≤ s.una + s.out.length + 1
  w0 : 0 ≤ s.wnd
  w1 : s.wnd ≤ 65535
/-- Where the loop of push stands. -/
def PushAt (N : Nat → Prop) (w : World) (k : Nat) (vp : Value) (s : TS) (F : Nat) (f : Nat) (wr : World) : Prop :=
  ∃ s1 vp1, TS.pushL F s = TS.pushL f s1 ∧ s1.out.length - s1.off < f ∧ ConnIs N wr k s1 vp1 ∧ Chg k vp w wr ∧ After w vp vp1 ∧ s1.Sn ∧ s1.inn.length ≤ 1024 ∧ s1.out.length ≤ 1024 ∧ s1.irs < 4294967296 ∧ s1.iss < 4294967296 ∧ s1.pack.length + (s1.out.length - s1.off) ≤ 800000 ∧ (∀ b, N b → b < wr.heap.size) ∧ s1.state = 3
section
variable {N : Nat → Prop} {w : World} {k : Nat} {s : TS} {vp : Value}
set_option maxRecDepth 100000 in
set_option maxHeartbeats 2000000 in
theorem pushl_calls (h : ConnIs N w k s vp) (hN : ∀ b, N b → b < w.heap.size) (hb : s.Bd) (hs : s.Sn) (hp : s.pack.length ≤ 700000) (h3 : s.state = 3) :
    Calls Try.prog 76 #[.pointer (some ⟨k, 0, none⟩)] w (Did N w k vp s.push (.tuple #[])) := by
  have c2069 := h.cellT 4 (fun _ _ => rfl) 2069 rfl
  rw [h3] at c2069
  have HPA : Hid (PushAt N w k vp s (s.out.length + 1) (s.out.length + 1) w) := Lib.hid ⟨s, vp, rfl, by omega, h, Chg.refl _ _ _, After.refl _ _, hs, hb.inn, hb.out, hb.irs, hb.iss, by have := hb.out; omega, hN, h3⟩
  have HPU : Hid (s.push = (TS.pushL (s.out.length + 1) s).pushF) := Lib.hid (by unfold TS.push; rw [if_pos h3])
  obtain ⟨F, hF⟩ : ∃ F, s.out.length + 1 = F := ⟨_, rfl⟩
  rw [hF] at HPA HPU
  clear hF
  clear h hN hb hs hp h3
  go_enter Try.func76, Try.ntmps76
  go_wp2_with fail
  go_loopg [2, 3] F (fun g v2 v3 wr => Hid (PushAt N w k vp s F g wr))
  case atStart => exact HPA
  case round =>
    obtain ⟨s1, vp1, q1, q2, q3, q4, q5, q6, q7, q8, q9, q10, q11, q12, q13⟩ := hrel.out
    clear hrel
    obtain ⟨o, ho⟩ : ∃ o, s1.off = o := ⟨_, rfl⟩
    obtain ⟨n, hn⟩ : ∃ n, s1.out.length = n := ⟨_, rfl⟩
    have hon : o ≤ n + 1 := by have := q6.a; have := q6.b; have := q6.c; unfold TS.off at ho; omega
    have hn2 : n ≤ 1024 := by omega
    have c6 := q3.cellH 6 (by decide) (fun _ _ => rfl)
    have c7 := q3.cellH 7 (by decide) (fun _ _ => rfl)
    have c10 := q3.cellH 10 (by decide) (fun _ _ => rfl)
    have c11 := q3.cellH 11 (by decide) (fun _ _ => rfl)
    have c12 := q3.cellH 12 (by decide) (fun _ _ => rfl)
    obtain ⟨A, c, c9, k1, k2, k3, k4⟩ := q3.cellO
    rw [hn] at c9 k1
    have hsd : sd (s1.num s1.nxt) (s1.num s1.una) = (o : Int) := by
      rw [show s1.num s1.nxt = m32 (s1.iss + s1.nxt) from rfl, show s1.num s1.una = m32 (s1.iss + s1.una) from rfl, sd_num _ _ _ (by have := q6.a; unfold TS.off at ho; omega) (by have := q6.a; omega), ← ho]
      unfold TS.off
      have := q6.a
      omega
    have HDF := Lib.hid (diff_calls (s1.num s1.nxt) (s1.num s1.una) (m32_lt _) (m32_lt _))
    rw [hsd] at HDF
    have hw0 := q6.w0
    have hw1 := q6.w1
    obtain ⟨wd, hwd⟩ : ∃ wd, s1.wnd = wd := ⟨_, rfl⟩
    rw [hwd] at c10 hw0 hw1
    have hmay : s1.may = min 128 (min ((n : Int) - (o : Int)) (wd - (o : Int))) := by unfold TS.may; rw [ho, hn, hwd]
    obtain ⟨m, hm⟩ : ∃ m, s1.may = m := ⟨_, rfl⟩
    rw [hm] at hmay
    have HMAY := Lib.hid hmay
    have HM := Lib.hid hm
    have HO := Lib.hid ho
    have HN' := Lib.hid hn
    have Q1 := Lib.hid q1
    have Q2 := Lib.hid q2
    have Q3 := Lib.hid q3
    have Q4 := Lib.hid q4
    have Q5 := Lib.hid q5
    have Q6 := Lib.hid q6
    have Q11 := Lib.hid q11
    have Q12 := Lib.hid q12
    clear hsd hmay hm ho hn hwd q1 q2 q3 q4 q5 q6 q11 q12 k4
    go_upto_region 1 with fail
    go_quiet ((go_at_call 98; refine Calls.quiet_of_same ((HDF.out _).mono fun _ _ k => ⟨k.1, k.2.symm⟩)))
    go_upto_region 2 with fail
    go_cut [3] from 20 to 35 (fun v wc => v = .int .i64 m ∧ Below wr.heap.size wr wc)
    case first =>
      have w1 : IntKind.i64.wrap ((n : Int) - (o : Int)) = (n : Int) - (o : Int) := IntWalk.i64_in _ (by omega)
      have w2 : IntKind.i64.wrap (wd - (o : Int)) = wd - (o : Int) := IntWalk.i64_in _ (by omega)
      rcases Int.lt_or_le ((n : Int) - (o : Int)) 128 with h1 | h1 <;> rcases Int.lt_or_le (wd - (o : Int)) ((n : Int) - (o : Int)) with h2 | h2 <;> rcases Int.lt_or_le (wd - (o : Int)) 128 with h3 | h3
      all_goals try (exfalso; omega)
      all_goals
        go_upto_region 2 with fail
        go_quiet (fail)
        go_wp2_with fail
        go_meet
        case rel => exact ⟨by rw [show m = _ from HMAY.out]; first | (congr 1; omega) | skip, ext_drewN (ext_drewN (Below.refl _ _) _) _⟩
    case rest =>
      obtain ⟨rfl, hbw⟩ := hcut
      have q3 := Q3.out.ext hbw
      have Q4' : Hid (Chg k vp w wc) := Lib.hid (Q4.out.trans (Chg.below hbw) Q5.out)
      have Q12' : Hid (∀ b, N b → b < wc.heap.size) := Lib.hid fun b hb => Nat.lt_of_lt_of_le (Q12.out b hb) hbw.size
      have k3 := k3.ext hbw
      have c7 := q3.cellH 7 (by decide) (fun _ _ => rfl)
      have c9 : wc.cell? ⟨k, 9, none⟩ = some (.slice A n c) := (hbw.cell (World.block_lt_of_cell? _ _ c9)).trans c9
      have c6 := q3.cellH 6 (by decide) (fun _ _ => rfl)
      have c11 := q3.cellH 11 (by decide) (fun _ _ => rfl)
      have c12 := q3.cellH 12 (by decide) (fun _ _ => rfl)
      have Q3' := Lib.hid q3
      clear q3 hbw Q3 Q4 Q12
      obtain ⟨w1, rfl⟩ : ∃ w1, w1 = wc := ⟨_, rfl⟩
      by_cases hm0 : m ≤ 0
      · have HX : Hid (s.push = s1.pushF) := Lib.hid (by
          rw [HPU.out, Q1.out]
          obtain ⟨g, rfl⟩ : ∃ g, gk = g + 1 := ⟨gk - 1, by have := Q2.out; omega⟩
          show (if s1.may ≤ 0 then s1 else TS.pushL g (s1.send s1.may.toNat)).pushF = _
          rw [HM.out, if_pos hm0])
        cases hsh : s1.shut with
        | false =>
          have HY : Hid (s.push = s1) := Lib.hid (by rw [HX.out]; unfold TS.pushF; rw [hsh]; exact if_neg (by simp))
          rw [hsh] at c11
          clear hsh
          go_upto_region 6 with fail
          go_quiet (fail)
          go_wp2_with fail
          go_end0
          exact ⟨vp1, rfl, by rw [HY.out]; exact Q3'.out.ext (ext_drewN (Below.refl _ _) _), Q4'.out.trans (Chg.below (ext_drewN (Below.refl _ _) _)) Q5.out, Q5.out⟩
        | true =>
          cases hov : s1.over with
          | true =>
            have HY : Hid (s.push = s1) := Lib.hid (by rw [HX.out]; unfold TS.pushF; rw [hov]; exact if_neg (by simp))
            rw [hsh] at c11
            rw [hov] at c12
            clear hsh hov
            go_upto_region 6 with fail
            go_quiet (fail)
            go_wp2_with fail
            go_end0
            exact ⟨vp1, rfl, by rw [HY.out]; exact Q3'.out.ext (ext_drewN (Below.refl _ _) _), Q4'.out.trans (Chg.below (ext_drewN (Below.refl _ _) _)) Q5.out, Q5.out⟩
          | false =>
            by_cases hon2 : o = n
            · have HY : Hid (s.push = (s1.emit 6 (s1.num s1.nxt) []).on 1) := Lib.hid (by rw [HX.out]; unfold TS.pushF; exact if_pos ⟨hsh, hov, HO.out.trans (hon2.trans HN'.out.symm)⟩)
              rw [hsh] at c11
              rw [hov] at c12
              clear hsh hov
              subst hon2
              go_upto_region 6 with fail
              go_quiet ((go_at_call 98; refine Calls.quiet_of_same ((HDF.out _).mono fun _ _ k => ⟨k.1, k.2.symm⟩)))
              have HE2 : Hid (∀ j, ConnIs N (w1.drewN j) k s1 vp1 ∧ Chg k vp w (w1.drewN j) ∧ ∀ b, N b → b < (w1.drewN j).heap.size) := Lib.hid fun j => ⟨Q3'.out.ext (ext_drewN (Below.refl _ _) _), Q4'.out.trans (Chg.below (ext_drewN (Below.refl _ _) _)) Q5.out, fun b hb => Nat.lt_of_lt_of_le (Q12'.out b hb) (ext_drewN (Below.refl w1.heap.size w1) j).size⟩
              go_wp2_with fail
              refine (emit_calls _ k s1 vp1 (HE2.out _).1 (HE2.out _).2.2 q7 (by have := Q11.out; omega) q9 6 (by omega) _ (m32_lt _) none 0 0 [] rfl (RB.nil _ _) (by omega)).mono ?_
              rintro e3 w3 ⟨vp3, rfl, h3, hc3, ha3⟩
              have HC3 : Hid (Chg k vp w w3) := Lib.hid ((HE2.out _).2.1.trans hc3 Q5.out)
              have HA3 : Hid (After w vp vp3) := Lib.hid (Q5.out.trans (ha3.earlier (Nat.le_refl _)) (HE2.out _).2.1.size)
              have HON := Lib.hid (on_calls h3 1 (by omega) Q6.out.b (by have h := Q6.out; have h1 := h.a; have h2 := h.b; have h3 := h.c; show s1.top ≤ s1.nxt + 100000; omega))
              clear h3 hc3 ha3
              go_wp2_with fail
              refine HON.out.mono ?_
              rintro e4 w4 ⟨rfl, h4, hc4⟩
              have H4 := Lib.hid h4
              have HC4 := Lib.hid (HC3.out.trans hc4 HA3.out)
              clear h4 hc4
              go_wp2_with fail
              go_end0
              exact ⟨vp3, rfl, by rw [HY.out]; exact H4.out, HC4.out, HA3.out⟩
            · have HY : Hid (s.push = s1) := Lib.hid (by rw [HX.out]; unfold TS.pushF; exact if_neg (fun h => hon2 (HO.out.symm.trans (h.2.2.trans HN'.out))))
              rw [hsh] at c11
              rw [hov] at c12
              have eon : ((o : Int) == (n : Int)) = false := beq_eq_false_iff_ne.2 (by omega)
              clear hsh hov
              go_upto_region 6 with fail
              go_quiet ((go_at_call 98; refine Calls.quiet_of_same ((HDF.out _).mono fun _ _ k => ⟨k.1, k.2.symm⟩)))
              go_wp2_with fail
              go_end0
              exact ⟨vp1, rfl, by rw [HY.out]; exact Q3'.out.ext (ext_drewN (Below.refl _ _) _), Q4'.out.trans (Chg.below (ext_drewN (Below.refl _ _) _)) Q5.out, Q5.out⟩
      · obtain ⟨r, hr⟩ : ∃ r : Nat, m = (r : Int) := ⟨m.toNat, by omega⟩
        subst hr
        have hor : o + r ≤ n := by have h := HMAY.out; omega
        have hr128 : r ≤ 128 := by have h := HMAY.out; omega
        have hrw : (r : Int) ≤ wd - o := by have h := HMAY.out; omega
        obtain ⟨b, p, rfl, _⟩ := k3.form (by rw [HN'.out]; omega)
        have HDT : Hid (RB w1 (some ⟨b, p + o, none⟩) ((s1.out.drop o).take r)) := Lib.hid ((k3.drop o).take r)
        have hdl : ((s1.out.drop o).take r).length = r := by rw [List.length_take, List.length_drop, HN'.out]; omega
        have HDL := Lib.hid hdl
        have HEM : Hid (∀ (W : World) (c : Nat), ConnIs N W k s1 vp1 → (∀ b, N b → b < W.heap.size) → RB W (some ⟨b, p + o, none⟩) ((s1.out.drop o).take r) → Calls Try.prog 75 #[.pointer (some ⟨k, 0, none⟩), .int .i64 2, .int .u32 (s1.num s1.nxt : Int), .slice (some ⟨b, p + o, none⟩) r c] W (Did N W k vp1 (s1.emit 2 (s1.num s1.nxt) ((s1.out.drop o).take r)) (.tuple #[]))) := Lib.hid fun W c h1 h2 h3 =>
          emit_calls W k s1 vp1 h1 h2 q7 (by have := Q11.out; omega) q9 2 (by omega) _ (m32_lt _) _ r c _ hdl h3 (by omega)
        clear k3 hdl
        obtain ⟨e, he⟩ : ∃ e, o + r = e := ⟨_, rfl⟩
        have hwe : IntKind.i64.wrap ((o : Int) + (r : Int)) = (e : Int) := by rw [IntWalk.i64_in _ (by omega)]; omega
        have hec : e ≤ c := by omega
        have hoe : o ≤ e := by omega
        have hco : ¬ c = o := by omega
        have heo : e - o = r := by omega
        have HE := Lib.hid he
        clear he
        go_upto_region 4 with fail
        have H2 : Hid (ConnIs N w1.drew k s1 vp1) := Lib.hid (Q3'.out.ext (Below.refl _ _).drew)
        have HC2 : Hid (Chg k vp w w1.drew) := Lib.hid Q4'.out.drew
        have HB2 : Hid (∀ b, N b → b < w1.drew.heap.size) := Lib.hid Q12'.out
        have HD2 : Hid (RB w1.drew (some ⟨b, p + o, none⟩) ((s1.out.drop o).take r)) := Lib.hid (HDT.out.ext (Below.refl _ _).drew)
        go_still_tail 16, (by kernel_rfl)
        change wpList _ _ _ _ _ w1.drew
        generalize w1.drew = w2 at H2 HC2 HB2 HD2 ⊢
        go_wp2_with fail
        refine (HEM.out w2 (c - o) H2.out HB2.out HD2.out).mono ?_
        rintro e3 w3 ⟨vp3, rfl, h3, hc3, ha3⟩
        have hsz := hc3.size
        have HN3 : Hid (∀ b, N b → b < w3.heap.size) := Lib.hid fun b hb => Nat.lt_of_lt_of_le (HB2.out b hb) hsz
        have HC3 : Hid (Chg k vp w w3) := Lib.hid (HC2.out.trans hc3 Q5.out)
        have HA3 : Hid (After w vp vp3) := Lib.hid (Q5.out.trans (ha3.earlier (Nat.le_refl _)) HC2.out.size)
        have HON := Lib.hid (on_calls h3 r (by omega) Q6.out.b (by have h := Q6.out; have h1 := h.a; have h2 := h.b; have h3 := h.c; show s1.top ≤ s1.nxt + 100000; omega))
        clear h3 hc3 ha3 hsz
        go_wp2_with fail
        refine HON.out.mono ?_
        rintro e4 w4 ⟨rfl, h4, hc4⟩
        have H4 := Lib.hid h4
        have HC4 := Lib.hid (HC3.out.trans hc4 HA3.out)
        have HN4 : Hid (∀ b, N b → b < w4.heap.size) := Lib.hid fun b hb => Nat.lt_of_lt_of_le (HN3.out b hb) hc4.size
        clear h4 hc4
        go_wp2_with fail
        go_roundg (gk - 1)
        case measure => have := Q2.out; omega
        case rel =>
          have hq1 : TS.pushL gk s1 = TS.pushL (gk - 1) (s1.send r) := by
            obtain ⟨g, rfl⟩ : ∃ g, gk = g + 1 := ⟨gk - 1, by have := Q2.out; omega⟩
            show (if s1.may ≤ 0 then s1 else TS.pushL g (s1.send s1.may.toNat)) = _
            rw [HM.out, if_neg (by omega)]
            rfl
          have ho : s1.off = o := HO.out
          have hn : s1.out.length = n := HN'.out
          have q6 := Q6.out
          have qa := q6.a
          have qb := q6.b
          have qc := q6.c
          have hsend : s1.send r = (s1.emit 2 (s1.num s1.nxt) ((s1.out.drop o).take r)).on r := by unfold TS.send; rw [ho]
          have hoff : (s1.send r).off = o + r := by
            show s1.nxt + r - s1.una = o + r
            unfold TS.off at ho
            omega
          exact Lib.hid ⟨s1.send r, vp3, Q1.out.trans hq1, by rw [hoff]; show s1.out.length - (o + r) < gk - 1; have := Q2.out; omega, by rw [hsend]; exact H4.out, HC4.out, HA3.out,
            ⟨by show s1.una ≤ s1.nxt + r; omega, by show s1.nxt + r ≤ max s1.top (s1.nxt + r); omega, by show max s1.top (s1.nxt + r) ≤ s1.una + s1.out.length + 1; unfold TS.off at ho; omega, q6.w0, q6.w1⟩,
            q7, q8, q9, q10, by rw [hoff]; show (s1.pack ++ [_]).length + (s1.out.length - (o + r)) ≤ 800000; rw [List.length_append, List.length_singleton]; have := Q11.out; omega, HN4.out, q13⟩
end
end Go.Proofs.Ytjhnnnklfhbebaa
