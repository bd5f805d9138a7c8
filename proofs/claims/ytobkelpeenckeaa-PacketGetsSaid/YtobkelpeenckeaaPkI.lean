/- packet: the example awake: the walk. -/
import Derived.Test.YtobkelpeenckeaaPkH
namespace Go.Proofs.Ytobkelpeenckeaa
open Go.RowKit
set_option linter.unusedVariables false
set_option linter.unusedSimpArgs false

theorem one_put : putP onePk = [70, 1, 2, 1, 3, 232, 0, 80, 0, 0, 0, 5, 0, 0, 0, 0, 0, 9, 179, 183, 0, 0] := by decide +kernel
theorem one_get : getP [70, 1, 2, 1, 3, 232, 0, 80, 0, 0, 0, 5, 0, 0, 0, 0, 0, 9, 179, 183, 0, 0] = (onePk, 0) := by kernel_rfl
theorem one_refuse : onePk.refuse 0 = (⟨2, 1, 80, 1000, 0, 6, 10, 0, 0, 0, []⟩, true) := by kernel_rfl
set_option maxRecDepth 100000 in
set_option maxHeartbeats 2000000 in
theorem awake_calls (w : World) :
    Calls Try.prog 13 #[] w fun e w' => e = .returned (.bool true) ∧ Below w.heap.size w w' := by
  go_enter Try.func13, Try.ntmps13
  go_wp2_with fail
  refine (one_calls w).mono ?_
  rintro e w1 ⟨rfl, hb1⟩
  have HB1 := Lib.hid hb1
  clear hb1
  go_wp2_with fail
  refine (put_good onePk none 0 0 rfl w1 (RB.nil _ _) (Nat.le_refl _) (by decide) (by decide) (by decide)).mono ?_
  rintro e w2 ⟨R, m, cR, rfl, hm, ho, hb2⟩
  rw [one_put] at hm ho
  obtain ⟨_, _, e1, hr, hc, hcm⟩ := ho.form
  injection e1 with ea eb ec
  subst ea ec
  have hm22 : m = 22 := hm
  subst hm22
  have hc22 : 22 ≤ cR := hc
  have hcm' : cR ≤ 9223372036854775807 := Nat.le_trans hcm (by decide)
  have HR2 := Lib.hid hr
  have HB2 := Lib.hid (ext_trans HB1.out hb2)
  clear hr hb2 ho hc hcm hm eb
  go_wp2_with fail
  refine (get_calls R cR 22 [70, 1, 2, 1, 3, 232, 0, 80, 0, 0, 0, 5, 0, 0, 0, 0, 0, 9, 179, 183, 0, 0] rfl w2 HR2.out hc22 hcm' (by decide)).mono ?_
  rintro e w3 ⟨R3, n3, d3, rfl, hn3, hnd3, ho3, hb3⟩
  rw [one_get] at hn3 ho3 ⊢
  have hn30 : n3 = 0 := hn3
  subst hn30
  have HR3 := Lib.hid (HR2.out.ext hb3)
  have HO3 : Hid (OwnB w2.heap.size 5 w3 (.slice R3 0 d3) []) := Lib.hid ho3
  have HB3 := Lib.hid (ext_trans HB2.out hb3)
  clear hn3 ho3 hb3 hnd3
  obtain ⟨k3, hk3⟩ : ∃ k, w3.heap.size = k := ⟨_, rfl⟩
  dsimp only
  simp only [Pk.cs, onePk]
  go_wp2_with fail
  refine (one_calls _).mono ?_
  rintro e w5 ⟨rfl, hb5⟩
  have HK5 : Hid (BK w5 k3 25 (onePk.cs R3 0 d3)) := Lib.hid ((hb5.block k3 (by simp; omega)).trans (heap_end hk3 _ _))
  have HB5 := Lib.hid ((HB3.out.alloc HB3.out.size _).trans (hb5.mono (by have := HB3.out.size; simp; omega)))
  have hb35 : Below w3.heap.size w3 w5 := ((Below.refl _ _).alloc (Nat.le_refl _) _).trans (hb5.mono (by simp))
  have HR5 := Lib.hid (HR3.out.ext hb35)
  have HO5 := Lib.hid (HO3.out.ext hb35)
  clear hb5 hb35 HR3 HO3 HB3
  dsimp only
  go_wp2_with fail
  refine (refuse_n onePk none 0 0 (by decide) (by decide) w5).mono ?_
  rintro e w6 ⟨rfl, hb6⟩
  rw [one_refuse]
  dsimp only
  simp only [Pk.cs]
  have HK6 := Lib.hid (HK5.out.ext hb6)
  have HB6 := Lib.hid (ext_trans HB5.out hb6)
  have HR6 := Lib.hid (HR5.out.ext hb6)
  have HO6 := Lib.hid (HO5.out.ext hb6)
  clear hb6 HK5 HB5 HR5 HO5
  obtain ⟨k5, hk5⟩ : ∃ k, w6.heap.size = k := ⟨_, rfl⟩
  go_upto_region 4 with fail
  have hb67 := ext_alloc w6 (.cells #[.int .i64 2, .int .i64 1, .int .i64 80, .int .i64 1000, .int .u32 0, .int .u32 6, .int .i64 10, .int .i64 0, .int .i64 0, .int .i64 0, .slice none 0 0] 25)
  have HK7 := Lib.hid (HK6.out.ext hb67)
  have HB7 := Lib.hid (ext_trans HB6.out hb67)
  have HA7 : Hid (BK (w6.alloc (.cells #[.int .i64 2, .int .i64 1, .int .i64 80, .int .i64 1000, .int .u32 0, .int .u32 6, .int .i64 10, .int .i64 0, .int .i64 0, .int .i64 0, .slice none 0 0] 25)) k5 25 [.int .i64 2, .int .i64 1, .int .i64 80, .int .i64 1000, .int .u32 0, .int .u32 6, .int .i64 10, .int .i64 0, .int .i64 0, .int .i64 0, .slice none 0 0]) := Lib.hid (heap_end hk5 _ _)
  obtain ⟨b, o, rfl, hcl⟩ := (HR6.out.ext hb67).form (by decide)
  have c00 := hcl 0 (by decide)
  have HLT := Lib.hid (World.block_lt_of_cell? _ _ c00)
  have C0 := Lib.hid c00
  have HCK : Hid (∀ W : World, Calls Try.prog 15 #[.agg #[.int .i64 0, .int .i64 0, .int .i64 0, .int .i64 0, .int .u32 0, .int .u32 0, .int .i64 0, .int .i64 0, .int .i64 0, .int .i64 0, .slice none 0 0]] W fun e w' => e = .returned (.int .i64 40) ∧ Below W.heap.size W w') := Lib.hid (check_n Pk.zero none 0 0)
  have HSM : Hid (∀ W : World, Calls Try.prog 17 #[.agg #[.int .i64 1, .int .i64 2, .int .i64 1000, .int .i64 80, .int .u32 5, .int .u32 0, .int .i64 1, .int .i64 9, .int .i64 0, .int .i64 0, .slice R3 0 d3], .agg (onePk.cs none 0 0).toArray] W fun e w' => e = .returned (.bool true) ∧ Below W.heap.size W w') := Lib.hid fun W => by
    have := same_n onePk onePk R3 none 0 d3 0 0 rfl rfl W (RB.nil _ _) (RB.nil _ _)
    rw [sameP_self] at this
    exact this
  clear hcl c00 hb67 HR6 HO6 HK6 HB6
  generalize w6.alloc (.cells #[.int .i64 2, .int .i64 1, .int .i64 80, .int .i64 1000, .int .u32 0, .int .u32 6, .int .i64 10, .int .i64 0, .int .i64 0, .int .i64 0, .slice none 0 0] 25) = w7 at *
  try rw [hk5]
  clear hk5
  refine wp_region_facts [[], [0], [0, 1], [0, 1, 2], [0, 1, 2, 3], [0, 1, 2, 3, 4], [0, 1, 2, 3, 4, 5], [0, 1, 2, 3, 4, 5, 6], [0, 1, 2, 3, 4, 5, 6, 7], [0, 1, 2, 3, 4, 5, 6, 7, 8], [0, 1, 2, 3, 4, 5, 6, 7, 8, 9], [0, 1, 2, 3, 4, 5, 6, 7, 8, 9, 10], [0, 1, 2, 3, 4, 5, 6, 7, 8, 9, 10, 11], [0, 1, 2, 3, 4, 5, 6, 7, 8, 9, 10, 11, 12], [0, 1, 2, 3, 4, 5, 6, 7, 8, 9, 10, 11, 12, 13], [0, 1, 2, 3, 4, 5, 6, 7, 8, 9, 10, 11, 12, 13, 14], [0, 1, 2, 3, 4, 5, 6, 7, 8, 9, 10, 11, 12, 13, 14, 15], [0, 1, 2, 3, 4, 5, 6, 7, 8, 9, 10, 11, 12, 13, 14, 15, 16], [0, 1, 2, 3, 4, 5, 6, 7, 8, 9, 10, 11, 12, 13, 14, 15, 16, 17], [0, 1, 2, 3, 4, 5, 6, 7, 8, 9, 10, 11, 12, 13, 14, 15, 16, 17], [0, 1, 2, 3, 4, 5, 6, 7, 8, 9, 10, 11, 12, 13, 14, 15, 16, 17, 18, 19], [0, 1, 2, 3, 4, 5, 6, 7, 8, 9, 10, 11, 12, 13, 14, 15, 16, 17, 18, 19, 20], [0, 1, 2, 3, 4, 5, 6, 7, 8, 9, 10, 11, 12, 13, 14, 15, 16, 17, 18, 19, 20, 21], [0, 1, 2, 3, 4, 5, 6, 7, 8, 9, 10, 11, 12, 13, 14, 15, 16, 17, 18, 19, 20, 21, 22], [0, 1, 2, 3, 4, 5, 6, 7, 8, 9, 10, 11, 12, 13, 14, 15, 16, 17, 18, 19, 20, 21, 22, 23], [0, 1, 2, 3, 4, 5, 6, 7, 8, 9, 10, 11, 12, 13, 14, 15, 16, 17, 18, 19, 20, 21, 22, 23, 24], [0, 1, 2, 3, 4, 5, 6, 7, 8, 9, 10, 11, 12, 13, 14, 15, 16, 17, 18, 19, 20, 21, 22, 23, 24, 25], [0, 1, 2, 3, 4, 5, 6, 7, 8, 9, 10, 11, 12, 13, 14, 15, 16, 17, 18, 19, 20, 21, 22, 23, 24, 25, 26], [0, 1, 2, 3, 4, 5, 6, 7, 8, 9, 10, 11, 12, 13, 14, 15, 16, 17, 18, 19, 20, 21, 22, 23, 24, 25, 26, 27], [0, 1, 2, 3, 4, 5, 6, 7, 8, 9, 10, 11, 12, 13, 14, 15, 16, 17, 18, 19, 20, 21, 22, 23, 24, 25, 26, 27, 28], [0, 1, 2, 3, 4, 5, 6, 7, 8, 9, 10, 11, 12, 13, 14, 15, 16, 17, 18, 19, 20, 21, 22, 23, 24, 25, 26, 27, 28, 29], [0, 1, 2, 3, 4, 5, 6, 7, 8, 9, 10, 11, 12, 13, 14, 15, 16, 17, 18, 19, 20, 21, 22, 23, 24, 25, 26, 27, 28, 29, 30], [0, 1, 2, 3, 4, 5, 6, 7, 8, 9, 10, 11, 12, 13, 14, 15, 16, 17, 18, 19, 20, 21, 22, 23, 24, 25, 26, 27, 28, 29, 30, 31], [0, 1, 2, 3, 4, 5, 6, 7, 8, 9, 10, 11, 12, 13, 14, 15, 16, 17, 18, 19, 20, 21, 22, 23, 24, 25, 26, 27, 28, 29, 30, 31, 32], [0, 1, 2, 3, 4, 5, 6, 7, 8, 9, 10, 11, 12, 13, 14, 15, 16, 17, 18, 19, 20, 21, 22, 23, 24, 25, 26, 27, 28, 29, 30, 31, 32, 33], [0, 1, 2, 3, 4, 5, 6, 7, 8, 9, 10, 11, 12, 13, 14, 15, 16, 17, 18, 19, 20, 21, 22, 23, 24, 25, 26, 27, 28, 29, 30, 31, 32, 33, 34]]
    [fun u _ => u = .int .i64 0,
     fun u _ => u = .bool true,
     fun u _ => u = .bool true,
     fun u _ => u = .slice (some ⟨b, o, none⟩) 22 cR,
     fun u _ => u = .int .i64 22,
     fun u _ => u = .bool true,
     fun u _ => u = .bool true,
     fun u _ => u = .bool true,
     fun u _ => u = .slice (some ⟨b, o, none⟩) 22 cR,
     fun u _ => u = .pointer (some ⟨b, o, none⟩),
     fun u _ => u = .int .u8 70,
     fun u _ => u = .bool true,
     fun u _ => u = .bool true,
     fun u _ => u = .bool true,
     fun u _ => u = .int .i64 0,
     fun u _ => u = .bool true,
     fun u _ => u = .bool true,
     fun u _ => u = .bool true,
     fun u _ => u = .agg #[.int .i64 1, .int .i64 2, .int .i64 1000, .int .i64 80, .int .u32 5, .int .u32 0, .int .i64 1, .int .i64 9, .int .i64 0, .int .i64 0, .slice R3 0 d3],
     fun u _ => u = .agg (onePk.cs none 0 0).toArray,
     fun u _ => u = .bool true,
     fun u _ => u = .bool true,
     fun u _ => u = .bool true,
     fun u _ => u = .agg #[.int .i64 0, .int .i64 0, .int .i64 0, .int .i64 0, .int .u32 0, .int .u32 0, .int .i64 0, .int .i64 0, .int .i64 0, .int .i64 0, .slice none 0 0],
     fun u _ => u = .int .i64 40,
     fun u _ => u = .bool true,
     fun u _ => u = .bool true,
     fun u _ => u = .bool true,
     fun u _ => u = .bool true,
     fun u _ => u = .bool true,
     fun u _ => u = .bool true,
     fun u _ => u = .pointer (some ⟨k5, 5, none⟩),
     fun u _ => u = .int .u32 6,
     fun u _ => u = .bool true,
     fun u _ => u = .bool true,
     fun u _ => u = .bool true]
    (fun u => ⟨#[u 35, Value.slice (some ⟨b, o, none⟩) 22 cR, Value.int IntKind.i64 0, Value.pointer (some { block := k3, off := 0 }), Value.int IntKind.i64 0, Value.pointer (some { block := k5, off := 0 }), Value.bool true, Value.tuple #[Value.slice (some ⟨b, o, none⟩) 22 cR, Value.int IntKind.i64 0], Value.agg #[Value.int IntKind.i64 1, Value.int IntKind.i64 2, Value.int IntKind.i64 1000, Value.int IntKind.i64 80, Value.int IntKind.u32 ((5 : Nat) : Int), Value.int IntKind.u32 ((0 : Nat) : Int), Value.int IntKind.i64 1, Value.int IntKind.i64 9, Value.int IntKind.i64 0, Value.int IntKind.i64 0, Value.slice none 0 0], Value.tuple #[Value.slice (some ⟨b, o, none⟩) 22 cR, Value.int IntKind.i64 0], Value.slice (some ⟨b, o, none⟩) 22 cR, Value.int IntKind.i64 0, Value.tuple #[Value.agg #[Value.int IntKind.i64 1, Value.int IntKind.i64 2, Value.int IntKind.i64 1000, Value.int IntKind.i64 80, Value.int IntKind.u32 ((5 : Nat) : Int), Value.int IntKind.u32 ((0 : Nat) : Int), Value.int IntKind.i64 1, Value.int IntKind.i64 9, Value.int IntKind.i64 0, Value.int IntKind.i64 0, Value.slice R3 0 d3], Value.int IntKind.i64 0], Value.slice (some ⟨b, o, none⟩) 22 cR, Value.tuple #[Value.agg #[Value.int IntKind.i64 1, Value.int IntKind.i64 2, Value.int IntKind.i64 1000, Value.int IntKind.i64 80, Value.int IntKind.u32 ((5 : Nat) : Int), Value.int IntKind.u32 ((0 : Nat) : Int), Value.int IntKind.i64 1, Value.int IntKind.i64 9, Value.int IntKind.i64 0, Value.int IntKind.i64 0, Value.slice R3 0 d3], Value.int IntKind.i64 0], Value.agg #[Value.int IntKind.i64 1, Value.int IntKind.i64 2, Value.int IntKind.i64 1000, Value.int IntKind.i64 80, Value.int IntKind.u32 5, Value.int IntKind.u32 0, Value.int IntKind.i64 1, Value.int IntKind.i64 9, Value.int IntKind.i64 0, Value.int IntKind.i64 0, Value.slice R3 0 d3], Value.int IntKind.i64 0, Value.tuple #[Value.agg #[Value.int IntKind.i64 2, Value.int IntKind.i64 1, Value.int IntKind.i64 80, Value.int IntKind.i64 1000, Value.int IntKind.u32 ((0 : Nat) : Int), Value.int IntKind.u32 ((6 : Nat) : Int), Value.int IntKind.i64 10, Value.int IntKind.i64 0, Value.int IntKind.i64 0, Value.int IntKind.i64 0, Value.slice none 0 0], Value.bool true], Value.agg #[Value.int IntKind.i64 onePk.src, Value.int IntKind.i64 onePk.dst, Value.int IntKind.i64 onePk.sp, Value.int IntKind.i64 onePk.dp, Value.int IntKind.u32 (onePk.seq : Int), Value.int IntKind.u32 (onePk.ack : Int), Value.int IntKind.i64 onePk.fl, Value.int IntKind.i64 onePk.wn, Value.int IntKind.i64 onePk.pr, Value.int IntKind.i64 onePk.og, Value.slice none 0 0], Value.tuple #[Value.agg #[Value.int IntKind.i64 2, Value.int IntKind.i64 1, Value.int IntKind.i64 80, Value.int IntKind.i64 1000, Value.int IntKind.u32 ((0 : Nat) : Int), Value.int IntKind.u32 ((6 : Nat) : Int), Value.int IntKind.i64 10, Value.int IntKind.i64 0, Value.int IntKind.i64 0, Value.int IntKind.i64 0, Value.slice none 0 0], Value.bool true], Value.agg #[Value.int IntKind.i64 2, Value.int IntKind.i64 1, Value.int IntKind.i64 80, Value.int IntKind.i64 1000, Value.int IntKind.u32 0, Value.int IntKind.u32 6, Value.int IntKind.i64 10, Value.int IntKind.i64 0, Value.int IntKind.i64 0, Value.int IntKind.i64 0, Value.slice none 0 0], Value.bool true, u 0, u 1, u 2, u 3, u 4, u 5, u 6, u 7, u 8, u 9, u 10, u 11, u 12, u 13, u 14, u 15, u 16, u 17, u 18, u 19, u 20, u 21, u 22, u 23, u 24, u 25, u 26, u 27, u 28, u 29, u 30, u 31, u 32, u 33, u 34], []⟩)
    (fun j => [undef, undef, undef, undef, undef, undef, undef, undef, undef, undef, undef, undef, undef, undef, undef, undef, undef, undef, undef, undef, undef, undef, undef, undef, undef, undef, undef, undef, undef, undef, undef, undef, undef, undef, undef, Value.bool false].getD j undef) (by kernel_rfl) (by kernel_rfl) (by kernel_rfl) rfl ⟨Mono.eq _, Mono.eq _, Mono.eq _, Mono.eq _, Mono.eq _, Mono.eq _, Mono.eq _, Mono.eq _, Mono.eq _, Mono.eq _, Mono.eq _, Mono.eq _, Mono.eq _, Mono.eq _, Mono.eq _, Mono.eq _, Mono.eq _, Mono.eq _, Mono.eq _, Mono.eq _, Mono.eq _, Mono.eq _, Mono.eq _, Mono.eq _, Mono.eq _, Mono.eq _, Mono.eq _, Mono.eq _, Mono.eq _, Mono.eq _, Mono.eq _, Mono.eq _, Mono.eq _, Mono.eq _, Mono.eq _, Mono.eq _, trivial⟩ ?_ ?_
  · refine ⟨?_, ?_, ?_, ?_, ?_, ?_, ?_, ?_, ?_, ?_, ?_, ?_, ?_, ?_, ?_, ?_, ?_, ?_, ?_, ?_, ?_, ?_, ?_, ?_, ?_, ?_, ?_, ?_, ?_, ?_, ?_, ?_, ?_, ?_, ?_, ?_, trivial⟩
    · intro u w2 hb hF J K hJ hK
      have HB2 := Lib.hid hb
      have HF := Lib.hid hF
      clear hb hF
      go_wp2
      exact hJ _ _ _ (Below.refl _ _) (rfl) (by simp [setU] <;> omega)
    · intro u w2 hb hF J K hJ hK
      have HB2 := Lib.hid hb
      have HF := Lib.hid hF
      clear hb hF
      have f0 : u 0 = .int .i64 0 := HF.out 0 (by decide)
      go_wp2
      exact hJ _ _ _ (Below.refl _ _) (rfl) (by simp [setU, f0] <;> omega)
    · intro u w2 hb hF J K hJ hK
      have HB2 := Lib.hid hb
      have HF := Lib.hid hF
      clear hb hF
      have f1 : u 1 = .bool true := HF.out 1 (by decide)
      go_wp2
      exact hJ _ _ _ (Below.refl _ _) (rfl) (by simp [setU, f1] <;> omega)
    · intro u w2 hb hF J K hJ hK
      have HB2 := Lib.hid hb
      have HF := Lib.hid hF
      clear hb hF
      have f2 : u 2 = .bool true := HF.out 2 (by decide)
      go_wp2
      exact hJ _ _ _ (Below.refl _ _) (rfl) (by simp [setU, f2] <;> omega)
    · intro u w2 hb hF J K hJ hK
      have HB2 := Lib.hid hb
      have HF := Lib.hid hF
      clear hb hF
      have f2 : u 2 = .bool true := HF.out 2 (by decide)
      have f3 : u 3 = .slice (some ⟨b, o, none⟩) 22 cR := HF.out 3 (by decide)
      go_wp2
      exact hJ _ _ _ (Below.refl _ _) (rfl) (by simp [setU, f2, f3] <;> omega)
    · intro u w2 hb hF J K hJ hK
      have HB2 := Lib.hid hb
      have HF := Lib.hid hF
      clear hb hF
      have f2 : u 2 = .bool true := HF.out 2 (by decide)
      have f4 : u 4 = .int .i64 22 := HF.out 4 (by decide)
      go_wp2
      exact hJ _ _ _ (Below.refl _ _) (rfl) (by simp [setU, f2, f4] <;> omega)
    · intro u w2 hb hF J K hJ hK
      have HB2 := Lib.hid hb
      have HF := Lib.hid hF
      clear hb hF
      have f2 : u 2 = .bool true := HF.out 2 (by decide)
      have f5 : u 5 = .bool true := HF.out 5 (by decide)
      go_wp2
      exact hJ _ _ _ (Below.refl _ _) (rfl) (by simp [setU, f2, f5] <;> omega)
    · intro u w2 hb hF J K hJ hK
      have HB2 := Lib.hid hb
      have HF := Lib.hid hF
      clear hb hF
      have f6 : u 6 = .bool true := HF.out 6 (by decide)
      go_wp2
      exact hJ _ _ _ (Below.refl _ _) (rfl) (by simp [setU, f6] <;> omega)
    · intro u w2 hb hF J K hJ hK
      have HB2 := Lib.hid hb
      have HF := Lib.hid hF
      clear hb hF
      have f7 : u 7 = .bool true := HF.out 7 (by decide)
      go_wp2
      exact hJ _ _ _ (Below.refl _ _) (rfl) (by simp [setU, f7] <;> omega)
    · intro u w2 hb hF J K hJ hK
      have HB2 := Lib.hid hb
      have HF := Lib.hid hF
      clear hb hF
      have f7 : u 7 = .bool true := HF.out 7 (by decide)
      have f8 : u 8 = .slice (some ⟨b, o, none⟩) 22 cR := HF.out 8 (by decide)
      go_wp2
      exact hJ _ _ _ (Below.refl _ _) (rfl) (by simp [setU, f7, f8] <;> omega)
    · intro u w2 hb hF J K hJ hK
      have HB2 := Lib.hid hb
      have HF := Lib.hid hF
      clear hb hF
      have f7 : u 7 = .bool true := HF.out 7 (by decide)
      have f9 : u 9 = .pointer (some ⟨b, o, none⟩) := HF.out 9 (by decide)
      have c0 : w2.cell? ⟨b, o, none⟩ = some (.int .u8 70) := (HB2.out.cell (p := ⟨b, o, none⟩) HLT.out).trans C0.out
      go_wp2
      exact hJ _ _ _ (Below.refl _ _) (rfl) (by simp [setU, f7, f9] <;> omega)
    · intro u w2 hb hF J K hJ hK
      have HB2 := Lib.hid hb
      have HF := Lib.hid hF
      clear hb hF
      have f7 : u 7 = .bool true := HF.out 7 (by decide)
      have f10 : u 10 = .int .u8 70 := HF.out 10 (by decide)
      go_wp2
      exact hJ _ _ _ (Below.refl _ _) (rfl) (by simp [setU, f7, f10] <;> omega)
    · intro u w2 hb hF J K hJ hK
      have HB2 := Lib.hid hb
      have HF := Lib.hid hF
      clear hb hF
      have f7 : u 7 = .bool true := HF.out 7 (by decide)
      have f11 : u 11 = .bool true := HF.out 11 (by decide)
      go_wp2
      exact hJ _ _ _ (Below.refl _ _) (rfl) (by simp [setU, f7, f11] <;> omega)
    · intro u w2 hb hF J K hJ hK
      have HB2 := Lib.hid hb
      have HF := Lib.hid hF
      clear hb hF
      have f12 : u 12 = .bool true := HF.out 12 (by decide)
      go_wp2
      exact hJ _ _ _ (Below.refl _ _) (rfl) (by simp [setU, f12] <;> omega)
    · intro u w2 hb hF J K hJ hK
      have HB2 := Lib.hid hb
      have HF := Lib.hid hF
      clear hb hF
      have f13 : u 13 = .bool true := HF.out 13 (by decide)
      go_wp2
      exact hJ _ _ _ (Below.refl _ _) (rfl) (by simp [setU, f13] <;> omega)
    · intro u w2 hb hF J K hJ hK
      have HB2 := Lib.hid hb
      have HF := Lib.hid hF
      clear hb hF
      have f13 : u 13 = .bool true := HF.out 13 (by decide)
      have f14 : u 14 = .int .i64 0 := HF.out 14 (by decide)
      go_wp2
      exact hJ _ _ _ (Below.refl _ _) (rfl) (by simp [setU, f13, f14] <;> omega)
    · intro u w2 hb hF J K hJ hK
      have HB2 := Lib.hid hb
      have HF := Lib.hid hF
      clear hb hF
      have f13 : u 13 = .bool true := HF.out 13 (by decide)
      have f15 : u 15 = .bool true := HF.out 15 (by decide)
      go_wp2
      exact hJ _ _ _ (Below.refl _ _) (rfl) (by simp [setU, f13, f15] <;> omega)
    · intro u w2 hb hF J K hJ hK
      have HB2 := Lib.hid hb
      have HF := Lib.hid hF
      clear hb hF
      have f16 : u 16 = .bool true := HF.out 16 (by decide)
      go_wp2
      exact hJ _ _ _ (Below.refl _ _) (rfl) (by simp [setU, f16] <;> omega)
    · intro u w2 hb hF J K hJ hK
      have HB2 := Lib.hid hb
      have HF := Lib.hid hF
      clear hb hF
      have f17 : u 17 = .bool true := HF.out 17 (by decide)
      have q0 : w2.cell? ⟨k3, 0, none⟩ = some (.int .i64 1) := (HK7.out.ext HB2.out).cell rfl
      have q1 : w2.cell? ⟨k3, 1, none⟩ = some (.int .i64 2) := (HK7.out.ext HB2.out).cell rfl
      have q2 : w2.cell? ⟨k3, 2, none⟩ = some (.int .i64 1000) := (HK7.out.ext HB2.out).cell rfl
      have q3 : w2.cell? ⟨k3, 3, none⟩ = some (.int .i64 80) := (HK7.out.ext HB2.out).cell rfl
      have q4 : w2.cell? ⟨k3, 4, none⟩ = some (.int .u32 5) := (HK7.out.ext HB2.out).cell rfl
      have q5 : w2.cell? ⟨k3, 5, none⟩ = some (.int .u32 0) := (HK7.out.ext HB2.out).cell rfl
      have q6 : w2.cell? ⟨k3, 6, none⟩ = some (.int .i64 1) := (HK7.out.ext HB2.out).cell rfl
      have q7 : w2.cell? ⟨k3, 7, none⟩ = some (.int .i64 9) := (HK7.out.ext HB2.out).cell rfl
      have q8 : w2.cell? ⟨k3, 8, none⟩ = some (.int .i64 0) := (HK7.out.ext HB2.out).cell rfl
      have q9 : w2.cell? ⟨k3, 9, none⟩ = some (.int .i64 0) := (HK7.out.ext HB2.out).cell rfl
      have q10 : w2.cell? ⟨k3, 10, none⟩ = some (.slice R3 0 d3) := (HK7.out.ext HB2.out).cell rfl
      go_wp2
      exact hJ _ _ _ (Below.refl _ _) (rfl) (by simp [setU, f17] <;> omega)
    · intro u w2 hb hF J K hJ hK
      have HB2 := Lib.hid hb
      have HF := Lib.hid hF
      clear hb hF
      have f17 : u 17 = .bool true := HF.out 17 (by decide)
      go_wp2_with fail
      refine (one_calls w2).mono ?_
      rintro e w4 ⟨rfl, hb4⟩
      have HB4 := Lib.hid hb4
      clear hb4
      go_wp2
      exact hJ _ _ _ (HB4.out) (rfl) (by simp [setU, f17] <;> omega)
    · intro u w2 hb hF J K hJ hK
      have HB2 := Lib.hid hb
      have HF := Lib.hid hF
      clear hb hF
      have f17 : u 17 = .bool true := HF.out 17 (by decide)
      have f18 : u 18 = .agg #[.int .i64 1, .int .i64 2, .int .i64 1000, .int .i64 80, .int .u32 5, .int .u32 0, .int .i64 1, .int .i64 9, .int .i64 0, .int .i64 0, .slice R3 0 d3] := HF.out 18 (by decide)
      have f19 : u 19 = .agg (onePk.cs none 0 0).toArray := HF.out 19 (by decide)
      go_wp2_with fail
      refine (HSM.out w2).mono ?_
      rintro e w4 ⟨rfl, hb4⟩
      have HB4 := Lib.hid hb4
      clear hb4
      go_wp2
      exact hJ _ _ _ (HB4.out) (rfl) (by simp [setU, f17, f18, f19] <;> omega)
    · intro u w2 hb hF J K hJ hK
      have HB2 := Lib.hid hb
      have HF := Lib.hid hF
      clear hb hF
      have f17 : u 17 = .bool true := HF.out 17 (by decide)
      have f20 : u 20 = .bool true := HF.out 20 (by decide)
      go_wp2
      exact hJ _ _ _ (Below.refl _ _) (rfl) (by simp [setU, f17, f20] <;> omega)
    · intro u w2 hb hF J K hJ hK
      have HB2 := Lib.hid hb
      have HF := Lib.hid hF
      clear hb hF
      have f21 : u 21 = .bool true := HF.out 21 (by decide)
      go_wp2
      exact hJ _ _ _ (Below.refl _ _) (rfl) (by simp [setU, f21] <;> omega)
    · intro u w2 hb hF J K hJ hK
      have HB2 := Lib.hid hb
      have HF := Lib.hid hF
      clear hb hF
      have f22 : u 22 = .bool true := HF.out 22 (by decide)
      go_wp2
      exact hJ _ _ _ (Below.refl _ _) (rfl) (by simp [setU, f22] <;> omega)
    · intro u w2 hb hF J K hJ hK
      have HB2 := Lib.hid hb
      have HF := Lib.hid hF
      clear hb hF
      have f22 : u 22 = .bool true := HF.out 22 (by decide)
      have f23 : u 23 = .agg #[.int .i64 0, .int .i64 0, .int .i64 0, .int .i64 0, .int .u32 0, .int .u32 0, .int .i64 0, .int .i64 0, .int .i64 0, .int .i64 0, .slice none 0 0] := HF.out 23 (by decide)
      go_wp2_with fail
      refine (HCK.out w2).mono ?_
      rintro e w4 ⟨rfl, hb4⟩
      have HB4 := Lib.hid hb4
      clear hb4
      go_wp2
      exact hJ _ _ _ (HB4.out) (rfl) (by simp [setU, f22, f23] <;> omega)
    · intro u w2 hb hF J K hJ hK
      have HB2 := Lib.hid hb
      have HF := Lib.hid hF
      clear hb hF
      have f22 : u 22 = .bool true := HF.out 22 (by decide)
      have f24 : u 24 = .int .i64 40 := HF.out 24 (by decide)
      go_wp2
      exact hJ _ _ _ (Below.refl _ _) (rfl) (by simp [setU, f22, f24] <;> omega)
    · intro u w2 hb hF J K hJ hK
      have HB2 := Lib.hid hb
      have HF := Lib.hid hF
      clear hb hF
      have f22 : u 22 = .bool true := HF.out 22 (by decide)
      have f25 : u 25 = .bool true := HF.out 25 (by decide)
      go_wp2
      exact hJ _ _ _ (Below.refl _ _) (rfl) (by simp [setU, f22, f25] <;> omega)
    · intro u w2 hb hF J K hJ hK
      have HB2 := Lib.hid hb
      have HF := Lib.hid hF
      clear hb hF
      have f26 : u 26 = .bool true := HF.out 26 (by decide)
      go_wp2
      exact hJ _ _ _ (Below.refl _ _) (rfl) (by simp [setU, f26] <;> omega)
    · intro u w2 hb hF J K hJ hK
      have HB2 := Lib.hid hb
      have HF := Lib.hid hF
      clear hb hF
      have f27 : u 27 = .bool true := HF.out 27 (by decide)
      go_wp2
      exact hJ _ _ _ (Below.refl _ _) (rfl) (by simp [setU, f27] <;> omega)
    · intro u w2 hb hF J K hJ hK
      have HB2 := Lib.hid hb
      have HF := Lib.hid hF
      clear hb hF
      have f27 : u 27 = .bool true := HF.out 27 (by decide)
      have f28 : u 28 = .bool true := HF.out 28 (by decide)
      go_wp2
      exact hJ _ _ _ (Below.refl _ _) (rfl) (by simp [setU, f27, f28] <;> omega)
    · intro u w2 hb hF J K hJ hK
      have HB2 := Lib.hid hb
      have HF := Lib.hid hF
      clear hb hF
      have f29 : u 29 = .bool true := HF.out 29 (by decide)
      go_wp2
      exact hJ _ _ _ (Below.refl _ _) (rfl) (by simp [setU, f29] <;> omega)
    · intro u w2 hb hF J K hJ hK
      have HB2 := Lib.hid hb
      have HF := Lib.hid hF
      clear hb hF
      have f30 : u 30 = .bool true := HF.out 30 (by decide)
      go_wp2
      exact hJ _ _ _ (Below.refl _ _) (rfl) (by simp [setU, f30] <;> omega)
    · intro u w2 hb hF J K hJ hK
      have HB2 := Lib.hid hb
      have HF := Lib.hid hF
      clear hb hF
      have f30 : u 30 = .bool true := HF.out 30 (by decide)
      have f31 : u 31 = .pointer (some ⟨k5, 5, none⟩) := HF.out 31 (by decide)
      have c6 : w2.cell? ⟨k5, 5, none⟩ = some (.int .u32 6) := (HA7.out.ext HB2.out).cell rfl
      go_wp2
      exact hJ _ _ _ (Below.refl _ _) (rfl) (by simp [setU, f30, f31] <;> omega)
    · intro u w2 hb hF J K hJ hK
      have HB2 := Lib.hid hb
      have HF := Lib.hid hF
      clear hb hF
      have f30 : u 30 = .bool true := HF.out 30 (by decide)
      have f32 : u 32 = .int .u32 6 := HF.out 32 (by decide)
      go_wp2
      exact hJ _ _ _ (Below.refl _ _) (rfl) (by simp [setU, f30, f32] <;> omega)
    · intro u w2 hb hF J K hJ hK
      have HB2 := Lib.hid hb
      have HF := Lib.hid hF
      clear hb hF
      have f30 : u 30 = .bool true := HF.out 30 (by decide)
      have f33 : u 33 = .bool true := HF.out 33 (by decide)
      go_wp2
      exact hJ _ _ _ (Below.refl _ _) (rfl) (by simp [setU, f30, f33] <;> omega)
    · intro u w2 hb hF J K hJ hK
      have HB2 := Lib.hid hb
      have HF := Lib.hid hF
      clear hb hF
      have f34 : u 34 = .bool true := HF.out 34 (by decide)
      go_wp2
      exact hJ _ _ _ (Below.refl _ _) (rfl) (by simp [setU, f34] <;> omega)
  · intro u w2 hb hF
    have HB2 := Lib.hid hb
    have f35 : u 35 = .bool true := hF 35 (by decide)
    clear hb hF
    have HB8 := Lib.hid (HB7.out.trans (HB2.out.mono HB7.out.size))
    clear HB2
    go_wp2
    go_ret
    exact ⟨rfl, HB8.out⟩
end Go.Proofs.Ytobkelpeenckeaa
