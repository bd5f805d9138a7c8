/- The walk of the law SumsThree. -/
import Derived.Test.YtnknkmpdkdpnaaaDoorSumsR
import Derived.Test.YtnknkmpdkdpnaaaDoorAny
import Derived.BigRegion
namespace Go.Proofs.YtnknkmpdkdpnaaaDoor
open Go.RowKit
set_option linter.unusedVariables false

theorem take_set_succ (l : List UInt8) (k : Nat) (x : UInt8) (h : k < l.length) : (l.set k x).take (k + 1) = l.take k ++ [x] := by
  rw [List.take_add_one, List.take_set_of_le (Nat.le_refl k), List.getElem?_set]
  simp [h]
theorem min4 (P : Program) (w : World) (ats : Array TypeId) (ty : TypeId) (x y z n : Nat) (hn : min (min (min x y) z) 65536 = n) : (Builtin.min_ ats ty #[.int .i64 (x : Int), .int .i64 (y : Int), .int .i64 (z : Int), .int .i64 65536]).run P w = .ok (.int .i64 (n : Int)) w := by
  subst hn
  simp only [Builtin.min_, List.foldlM_cons, List.foldlM_nil, Builtin.min2]
  simp
  repeat' split
  all_goals omega
theorem one_len {l : List UInt8} {N : Nat} (h : l.length ≤ N) : ∀ i, i < [l].length → ([l].getD i []).length ≤ N := by
  intro i hi
  obtain rfl : i = 0 := by simpa using hi
  exact h
set_option maxHeartbeats 4000000 in
theorem three_walk (w : World) (hN : Nib w) (A : Option Addr) (ca : Nat) (a : List UInt8) (h : RB w A a) (hca : a.length ≤ ca) (hla : a.length ≤ 140737488351232)
    (B : Option Addr) (cb : Nat) (b : List UInt8) (h2 : RB w B b) (hcb : b.length ≤ cb) (hlb : b.length ≤ 140737488351232)
    (C : Option Addr) (cc : Nat) (c : List UInt8) (h3 : RB w C c) (hcc : c.length ≤ cc) (hlc : c.length ≤ 140737488351232) :
    Calls Tryd.prog 3 #[.slice A a.length ca, .slice B b.length cb, .slice C c.length cc] w fun e w' => e = .returned (.bool true) ∧ Below w.heap.size w w' := by
  have H := Lib.hid h
  have H2 := Lib.hid h2
  have H3 := Lib.hid h3
  have HN := Lib.hid hN
  clear h h2 h3 hN
  obtain ⟨n, hn⟩ : ∃ n, min (min (min a.length b.length) c.length) 65536 = n := ⟨_, rfl⟩
  have hna : n ≤ a.length := by omega
  have hnb : n ≤ b.length := by omega
  have hnc : n ≤ c.length := by omega
  have hn6 : n ≤ 65536 := by omega
  have hmin := min4 Tryd.prog w #[3, 3, 3, 3] 3 a.length b.length c.length n hn
  have HM := Lib.hid hn
  clear hn
  go_enter Tryd.func3, Tryd.ntmps3
  go_wp2_with (at_make; refine wpList_makeFullB rfl _ _ 22 rfl w.heap.size 5 Tryd.underlying22 infoB .i64 .i64 (n : Int) (n : Int) n rfl rfl rfl rfl (by omega) (Nat.le_refl _) ?_)
  intro w1 ho hg
  have HO := Lib.hid ho
  have HB := Lib.hid (grown_none (Below.refl w.heap.size w) hg (Nat.le_refl _))
  clear ho hg hmin
  go_wp2_with fail
  go_loopw [21] (fun i wr => ∃ k : Nat, k ≤ n ∧ i = .int .i64 k ∧ ∃ l, OwnB w.heap.size 5 wr (.slice (some ⟨w.heap.size, 0, none⟩) n n) l ∧ l.length = n ∧ l.take k = xor3 a b c k ∧ Below w.heap.size w wr) (fun i _ => n - (intOf i).toNat)
  case atStart => exact ⟨0, Nat.zero_le _, rfl, _, HO.out, by simp, by simp [xor3], HB.out⟩
  case round =>
    obtain ⟨k, hk, rfl, l, ho, hl, he, hb⟩ := hrel
    clear HO HB
    have HO := Lib.hid ho
    have HB := Lib.hid hb
    have HL := Lib.hid hl
    have HE := Lib.hid he
    clear ho hb hl he
    by_cases h1 : k < n
    · obtain ⟨b1, o1, rfl, hc1⟩ := (H.out.ext HB.out) k (by omega)
      obtain ⟨b2, o2, rfl, hc2⟩ := (H2.out.ext HB.out) k (by omega)
      obtain ⟨b3, o3, rfl, hc3⟩ := (H3.out.ext HB.out) k (by omega)
      obtain ⟨hc4, hf4⟩ := HO.out.cell k (by rw [HL.out]; exact h1)
      have hg1 := gb_lt8 a k
      have hg2 := gb_lt8 b k
      have hg3 := gb_lt8 c k
      have e1 := xor_u8 (gb a k) (gb b k) hg1 hg2
      have e2 := xor_u8 (gb a k ^^^ gb b k) (gb c k) (xor_lt8 hg1 hg2) hg3
      have hg4 := xor_lt8 (xor_lt8 hg1 hg2) hg3
      have HG := Lib.hid hg4
      have hk0 : (0 : Int) ≤ k := by omega
      have hki : (k : Int) < n := by omega
      have hka : (k : Int) < a.length := by omega
      have hkb : (k : Int) < b.length := by omega
      have hkc : (k : Int) < c.length := by omega
      generalize hx : gb a k ^^^ gb b k = x12 at *
      generalize hy : x12 ^^^ gb c k = x at *
      have HX : Hid (gb a k ^^^ gb b k ^^^ gb c k = x) := by rw [← hy, ← hx]; exact Lib.hid rfl
      clear hx hy hg4
      go_wp2_with fail
      go_region
      rw [← ofNat_vb x HG.out]
      have HO2 := Lib.hid ((HO.out.set k (UInt8.ofNat x)).ext (Below.refl _ _).drew)
      have HB2 := Lib.hid ((HB.out.setCell (p := ⟨w.heap.size, k, none⟩) (Nat.le_refl _) (.int .u8 ((UInt8.ofNat x).toNat : Int))).drew)
      have HL2 : Hid ((l.set k (UInt8.ofNat x)).length = n) := by show _ = _; rw [List.length_set, HL.out]
      have HE2 : Hid ((l.set k (UInt8.ofNat x)).take (k + 1) = xor3 a b c (k + 1)) := by
        show _ = _
        rw [take_set_succ l k _ (by rw [HL.out]; exact h1), HE.out, xor3, HX.out]
      generalize (wr.setCell ⟨w.heap.size, k, none⟩ (.int .u8 ((UInt8.ofNat x).toNat : Int))).drew = w2 at *
      generalize l.set k (UInt8.ofNat x) = l2 at *
      clear e1 e2 hc1 hc2 hc3 hc4 hf4
      go_wp2
      exact ⟨⟨k + 1, by omega, by go_num, l2, HO2.out, HL2.out, HE2.out, HB2.out⟩, by simp [intOf]; omega⟩
    · obtain rfl : k = n := by omega
      have he : l = xor3 a b c k := by have := HE.out; rwa [List.take_of_length_le (by rw [HL.out]; exact Nat.le_refl _)] at this
      obtain ⟨A4, c4, ev, hr4, hc4, _⟩ := HO.out.form
      injection ev with ea eb ec
      subst ea ec
      clear eb
      have HR4 := Lib.hid hr4
      have T := Lib.hid (crc_three a b c k hna hnb hnc)
      rw [← he] at T
      clear he hr4
      have hla : (a.take k).length = k := by rw [List.length_take]; omega
      have hlb : (b.take k).length = k := by rw [List.length_take]; omega
      have hlc : (c.take k).length = k := by rw [List.length_take]; omega
      have RA := Lib.hid ((H.out.ext HB.out).take k)
      have RBx := Lib.hid ((H2.out.ext HB.out).take k)
      have RC := Lib.hid ((H3.out.ext HB.out).take k)
      have HLA := Lib.hid hla
      have HLB := Lib.hid hlb
      have HLC := Lib.hid hlc
      clear hla hlb hlc
      have hca2 : (k : Int) ≤ ca := by omega
      have hcb2 : (k : Int) ≤ cb := by omega
      have hcc2 : (k : Int) ≤ cc := by omega
      have ha1 := crcN_lt [a.take k]
      have hb1 := crcN_lt [b.take k]
      have hc1 := crcN_lt [c.take k]
      have X1 := Lib.hid (xor_u32 _ _ ha1 hb1)
      have X2 := Lib.hid (xor_u32 _ _ (show crcN [a.take k] ^^^ crcN [b.take k] < 4294967296 from Nat.xor_lt_two_pow (n := 32) ha1 hb1) hc1)
      clear ha1 hb1 hc1
      rw [← T.out] at X2
      obtain ⟨xa, XA⟩ : ∃ x, Hid (crcN [a.take k] = x) := ⟨_, Lib.hid rfl⟩
      obtain ⟨xb, XB⟩ : ∃ x, Hid (crcN [b.take k] = x) := ⟨_, Lib.hid rfl⟩
      obtain ⟨xc, XC⟩ : ∃ x, Hid (crcN [c.take k] = x) := ⟨_, Lib.hid rfl⟩
      obtain ⟨xl, XL⟩ : ∃ x, Hid (crcN [l] = x) := ⟨_, Lib.hid rfl⟩
      rw [XA.out, XB.out] at X1 X2
      rw [XC.out, XL.out] at X2
      generalize xa ^^^ xb = xab at *
      go_wp2_with fail
      refine wp_region_facts [[], [0], [0, 1], [], [], [3, 4], [3, 4, 5], [3, 4, 5, 6], [], [], [8, 9], [8, 9, 10], [8, 9, 10, 11], [3, 4, 5, 6, 7, 8, 9, 10, 11, 12], [], [], [14, 15], [14, 15, 16], [14, 15, 16, 17], [3, 4, 5, 6, 7, 8, 9, 10, 11, 12, 13, 14, 15, 16, 17, 18], [0, 1, 2, 3, 4, 5, 6, 7, 8, 9, 10, 11, 12, 13, 14, 15, 16, 17, 18, 19], [0, 1, 2, 3, 4, 5, 6, 7, 8, 9, 10, 11, 12, 13, 14, 15, 16, 17, 18, 19, 20], [0, 1, 2, 3, 4, 5, 6, 7, 8, 9, 10, 11, 12, 13, 14, 15, 16, 17, 18, 19, 20, 21], [0, 1, 2, 3, 4, 5, 6, 7, 8, 9, 10, 11, 12, 13, 14, 15, 16, 17, 18, 19, 20, 21, 22], [0, 1, 2, 3, 4, 5, 6, 7, 8, 9, 10, 11, 12, 13, 14, 15, 16, 17, 18, 19, 20, 21, 22, 23]]
        [fun u _ => u = .slice (some ⟨w.heap.size, 0, none⟩) k k,
         fun u w => ∃ A1, u = .slice A1 1 1 ∧ RBB w A1 [l],
         fun u _ => u = .int .u32 (xl : Int),
         fun u _ => u = .slice A a.length ca,
         fun u _ => u = .int .i64 (k : Int),
         fun u _ => u = .slice A k ca,
         fun u w => ∃ A1, u = .slice A1 1 1 ∧ RBB w A1 [(a.take k)],
         fun u _ => u = .int .u32 (xa : Int),
         fun u _ => u = .slice B b.length cb,
         fun u _ => u = .int .i64 (k : Int),
         fun u _ => u = .slice B k cb,
         fun u w => ∃ A1, u = .slice A1 1 1 ∧ RBB w A1 [(b.take k)],
         fun u _ => u = .int .u32 (xb : Int),
         fun u _ => u = .int .u32 (xab : Int),
         fun u _ => u = .slice C c.length cc,
         fun u _ => u = .int .i64 (k : Int),
         fun u _ => u = .slice C k cc,
         fun u w => ∃ A1, u = .slice A1 1 1 ∧ RBB w A1 [(c.take k)],
         fun u _ => u = .int .u32 (xc : Int),
         fun u _ => u = .int .u32 (xl : Int),
         fun u _ => u = .bool true,
         fun u _ => u = .bool true,
         fun u _ => u = .bool true,
         fun u _ => u = .bool true,
         fun u _ => u = .bool true]
        (fun u => ⟨#[Value.slice A a.length ca, Value.slice B b.length cb, Value.slice C c.length cc, undef, undef, undef, u 24, Value.int IntKind.i64 ↑k, Value.slice (some { block := w.heap.size, off := 0 }) k k, u9, Value.slice A a.length ca, Value.int IntKind.i64 ↑a.length, Value.slice B b.length cb, Value.int IntKind.i64 ↑b.length, Value.slice C c.length cc, Value.int IntKind.i64 ↑c.length, Value.int IntKind.i64 ↑k, Value.int IntKind.i64 ↑k, Value.slice (some { block := w.heap.size, off := 0 }) k k, Value.slice (some { block := w.heap.size, off := 0 }) k k, Value.int IntKind.i64 ↑k, Value.int IntKind.i64 ↑k, Value.bool false, u23, u24, u25, u26, u27, u28, u29, u30, u31, u32, u33, u34, u35, u36, u37, u38, u39, u40, u41, u 0, u 1, u 2, u 3, u 4, u 5, u 6, u 7, u 8, u 9, u 10, u 11, u 12, u 13, u 14, u 15, u 16, u 17, u 18, u 19, u 20, u 21, u 22, u 23], []⟩)
        (fun j => [undef, undef, undef, undef, undef, undef, undef, undef, undef, undef, undef, undef, undef, undef, undef, undef, undef, undef, undef, undef, undef, undef, undef, undef, Value.bool false].getD j undef) (by kernel_rfl) (by kernel_rfl) (by kernel_rfl) rfl ⟨Mono.eq _, fun _ _ _ e h => h.imp fun _ x => ⟨x.1, x.2.ext e⟩, Mono.eq _, Mono.eq _, Mono.eq _, Mono.eq _, fun _ _ _ e h => h.imp fun _ x => ⟨x.1, x.2.ext e⟩, Mono.eq _, Mono.eq _, Mono.eq _, Mono.eq _, fun _ _ _ e h => h.imp fun _ x => ⟨x.1, x.2.ext e⟩, Mono.eq _, Mono.eq _, Mono.eq _, Mono.eq _, Mono.eq _, fun _ _ _ e h => h.imp fun _ x => ⟨x.1, x.2.ext e⟩, Mono.eq _, Mono.eq _, Mono.eq _, Mono.eq _, Mono.eq _, Mono.eq _, Mono.eq _, trivial⟩ ?_ ?_
      · refine ⟨?_, ?_, ?_, ?_, ?_, ?_, ?_, ?_, ?_, ?_, ?_, ?_, ?_, ?_, ?_, ?_, ?_, ?_, ?_, ?_, ?_, ?_, ?_, ?_, ?_, trivial⟩
        · intro u w2 hb hF J K hJ hK
          have HB2 := Lib.hid hb
          have HF := Lib.hid hF
          clear hb hF
          go_wp2
          exact hJ _ _ _ (Below.refl _ _) (rfl) (by simp [setU])
        · intro u w2 hb hF J K hJ hK
          have HB2 := Lib.hid hb
          have HF := Lib.hid hF
          clear hb hF
          have f0 : u 0 = .slice (some ⟨w.heap.size, 0, none⟩) k k := HF.out 0 (by decide)
          have hw2 := RBB.one (some ⟨w.heap.size, 0, none⟩) k _ _ (HR4.out.ext HB2.out) HL.out.symm (Nat.le_refl _) 22
          go_wp2
          exact hJ _ _ _ (ext_alloc w2 _) (⟨_, rfl, hw2⟩) (by simp [setU, f0])
        · intro u w2 hb hF J K hJ hK
          have HB2 := Lib.hid hb
          have HF := Lib.hid hF
          clear hb hF
          obtain ⟨A1, f1, hr1⟩ := HF.out 1 (by decide)
          have H1 := Lib.hid hr1
          clear hr1
          go_wp2_with fail
          refine (crc_calls A1 1 [_] w2 (HN.out.ext (ext_trans HB.out HB2.out)) H1.out (by simp) (one_len (by rw [HL.out]; omega))).mono ?_
          rintro e w3 ⟨rfl, rfl⟩
          rw [XL.out]
          go_wp2
          exact hJ _ _ _ (Below.refl _ _) (rfl) (by simp [setU, f1])
        · intro u w2 hb hF J K hJ hK
          have HB2 := Lib.hid hb
          have HF := Lib.hid hF
          clear hb hF
          go_wp2
          exact hJ _ _ _ (Below.refl _ _) (rfl) (by simp [setU])
        · intro u w2 hb hF J K hJ hK
          have HB2 := Lib.hid hb
          have HF := Lib.hid hF
          clear hb hF
          go_wp2
          exact hJ _ _ _ (Below.refl _ _) (rfl) (by simp [setU])
        · intro u w2 hb hF J K hJ hK
          have HB2 := Lib.hid hb
          have HF := Lib.hid hF
          clear hb hF
          have f3 : u 3 = .slice A a.length ca := HF.out 3 (by decide)
          have f4 : u 4 = .int .i64 (k : Int) := HF.out 4 (by decide)
          go_wp2
          exact hJ _ _ _ (Below.refl _ _) (rfl) (by simp [setU, f3, f4])
        · intro u w2 hb hF J K hJ hK
          have HB2 := Lib.hid hb
          have HF := Lib.hid hF
          clear hb hF
          have f5 : u 5 = .slice A k ca := HF.out 5 (by decide)
          have hw2 := RBB.one A ca _ _ (RA.out.ext HB2.out) HLA.out.symm (by omega) 22
          go_wp2
          exact hJ _ _ _ (ext_alloc w2 _) (⟨_, rfl, hw2⟩) (by simp [setU, f5])
        · intro u w2 hb hF J K hJ hK
          have HB2 := Lib.hid hb
          have HF := Lib.hid hF
          clear hb hF
          obtain ⟨A1, f6, hr1⟩ := HF.out 6 (by decide)
          have H1 := Lib.hid hr1
          clear hr1
          go_wp2_with fail
          refine (crc_calls A1 1 [_] w2 (HN.out.ext (ext_trans HB.out HB2.out)) H1.out (by simp) (one_len (by rw [HLA.out]; omega))).mono ?_
          rintro e w3 ⟨rfl, rfl⟩
          rw [XA.out]
          go_wp2
          exact hJ _ _ _ (Below.refl _ _) (rfl) (by simp [setU, f6])
        · intro u w2 hb hF J K hJ hK
          have HB2 := Lib.hid hb
          have HF := Lib.hid hF
          clear hb hF
          go_wp2
          exact hJ _ _ _ (Below.refl _ _) (rfl) (by simp [setU])
        · intro u w2 hb hF J K hJ hK
          have HB2 := Lib.hid hb
          have HF := Lib.hid hF
          clear hb hF
          go_wp2
          exact hJ _ _ _ (Below.refl _ _) (rfl) (by simp [setU])
        · intro u w2 hb hF J K hJ hK
          have HB2 := Lib.hid hb
          have HF := Lib.hid hF
          clear hb hF
          have f8 : u 8 = .slice B b.length cb := HF.out 8 (by decide)
          have f9 : u 9 = .int .i64 (k : Int) := HF.out 9 (by decide)
          go_wp2
          exact hJ _ _ _ (Below.refl _ _) (rfl) (by simp [setU, f8, f9])
        · intro u w2 hb hF J K hJ hK
          have HB2 := Lib.hid hb
          have HF := Lib.hid hF
          clear hb hF
          have f10 : u 10 = .slice B k cb := HF.out 10 (by decide)
          have hw2 := RBB.one B cb _ _ (RBx.out.ext HB2.out) HLB.out.symm (by omega) 22
          go_wp2
          exact hJ _ _ _ (ext_alloc w2 _) (⟨_, rfl, hw2⟩) (by simp [setU, f10])
        · intro u w2 hb hF J K hJ hK
          have HB2 := Lib.hid hb
          have HF := Lib.hid hF
          clear hb hF
          obtain ⟨A1, f11, hr1⟩ := HF.out 11 (by decide)
          have H1 := Lib.hid hr1
          clear hr1
          go_wp2_with fail
          refine (crc_calls A1 1 [_] w2 (HN.out.ext (ext_trans HB.out HB2.out)) H1.out (by simp) (one_len (by rw [HLB.out]; omega))).mono ?_
          rintro e w3 ⟨rfl, rfl⟩
          rw [XB.out]
          go_wp2
          exact hJ _ _ _ (Below.refl _ _) (rfl) (by simp [setU, f11])
        · intro u w2 hb hF J K hJ hK
          have HB2 := Lib.hid hb
          have HF := Lib.hid hF
          clear hb hF
          have f7 : u 7 = .int .u32 (xa : Int) := HF.out 7 (by decide)
          have f12 : u 12 = .int .u32 (xb : Int) := HF.out 12 (by decide)
          have e1 := X1.out
          go_wp2
          exact hJ _ _ _ (Below.refl _ _) (rfl) (by simp [setU, f7, f12])
        · intro u w2 hb hF J K hJ hK
          have HB2 := Lib.hid hb
          have HF := Lib.hid hF
          clear hb hF
          go_wp2
          exact hJ _ _ _ (Below.refl _ _) (rfl) (by simp [setU])
        · intro u w2 hb hF J K hJ hK
          have HB2 := Lib.hid hb
          have HF := Lib.hid hF
          clear hb hF
          go_wp2
          exact hJ _ _ _ (Below.refl _ _) (rfl) (by simp [setU])
        · intro u w2 hb hF J K hJ hK
          have HB2 := Lib.hid hb
          have HF := Lib.hid hF
          clear hb hF
          have f14 : u 14 = .slice C c.length cc := HF.out 14 (by decide)
          have f15 : u 15 = .int .i64 (k : Int) := HF.out 15 (by decide)
          go_wp2
          exact hJ _ _ _ (Below.refl _ _) (rfl) (by simp [setU, f14, f15])
        · intro u w2 hb hF J K hJ hK
          have HB2 := Lib.hid hb
          have HF := Lib.hid hF
          clear hb hF
          have f16 : u 16 = .slice C k cc := HF.out 16 (by decide)
          have hw2 := RBB.one C cc _ _ (RC.out.ext HB2.out) HLC.out.symm (by omega) 22
          go_wp2
          exact hJ _ _ _ (ext_alloc w2 _) (⟨_, rfl, hw2⟩) (by simp [setU, f16])
        · intro u w2 hb hF J K hJ hK
          have HB2 := Lib.hid hb
          have HF := Lib.hid hF
          clear hb hF
          obtain ⟨A1, f17, hr1⟩ := HF.out 17 (by decide)
          have H1 := Lib.hid hr1
          clear hr1
          go_wp2_with fail
          refine (crc_calls A1 1 [_] w2 (HN.out.ext (ext_trans HB.out HB2.out)) H1.out (by simp) (one_len (by rw [HLC.out]; omega))).mono ?_
          rintro e w3 ⟨rfl, rfl⟩
          rw [XC.out]
          go_wp2
          exact hJ _ _ _ (Below.refl _ _) (rfl) (by simp [setU, f17])
        · intro u w2 hb hF J K hJ hK
          have HB2 := Lib.hid hb
          have HF := Lib.hid hF
          clear hb hF
          have f13 : u 13 = .int .u32 (xab : Int) := HF.out 13 (by decide)
          have f18 : u 18 = .int .u32 (xc : Int) := HF.out 18 (by decide)
          have e1 := X2.out
          go_wp2
          exact hJ _ _ _ (Below.refl _ _) (rfl) (by simp [setU, f13, f18])
        · intro u w2 hb hF J K hJ hK
          have HB2 := Lib.hid hb
          have HF := Lib.hid hF
          clear hb hF
          have f2 : u 2 = .int .u32 (xl : Int) := HF.out 2 (by decide)
          have f19 : u 19 = .int .u32 (xl : Int) := HF.out 19 (by decide)
          go_wp2
          exact hJ _ _ _ (Below.refl _ _) (rfl) (by simp [setU, f2, f19])
        · intro u w2 hb hF J K hJ hK
          have HB2 := Lib.hid hb
          have HF := Lib.hid hF
          clear hb hF
          have f20 : u 20 = .bool true := HF.out 20 (by decide)
          go_wp2
          exact hJ _ _ _ (Below.refl _ _) (rfl) (by simp [setU, f20])
        · intro u w2 hb hF J K hJ hK
          have HB2 := Lib.hid hb
          have HF := Lib.hid hF
          clear hb hF
          have f21 : u 21 = .bool true := HF.out 21 (by decide)
          go_wp2_with fail
          refine (awake_calls _ (HN.out.ext (ext_trans HB.out HB2.out))).mono ?_
          rintro e w3 ⟨rfl, hb3⟩
          have HB3 := Lib.hid hb3
          clear hb3
          go_wp2
          exact hJ _ _ _ (HB3.out) (rfl) (by simp [setU, f21])
        · intro u w2 hb hF J K hJ hK
          have HB2 := Lib.hid hb
          have HF := Lib.hid hF
          clear hb hF
          have f21 : u 21 = .bool true := HF.out 21 (by decide)
          have f22 : u 22 = .bool true := HF.out 22 (by decide)
          go_wp2
          exact hJ _ _ _ (Below.refl _ _) (rfl) (by simp [setU, f21, f22])
        · intro u w2 hb hF J K hJ hK
          have HB2 := Lib.hid hb
          have HF := Lib.hid hF
          clear hb hF
          have f23 : u 23 = .bool true := HF.out 23 (by decide)
          go_wp2
          exact hJ _ _ _ (Below.refl _ _) (rfl) (by simp [setU, f23])
      · intro u w2 hb hF
        have HB2 := Lib.hid hb
        have f24 : u 24 = .bool true := hF 24 (by decide)
        clear hb hF
        go_wp2
        go_ret
        exact ⟨by simp [f24], ext_trans HB.out HB2.out⟩
end Go.Proofs.YtnknkmpdkdpnaaaDoor
