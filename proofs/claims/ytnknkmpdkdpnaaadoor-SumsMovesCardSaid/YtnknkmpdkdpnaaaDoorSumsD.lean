/- The walks of sums.Open and of the reference's functions. -/
import Derived.Test.YtnknkmpdkdpnaaaDoorSumsC
namespace Go.Proofs.YtnknkmpdkdpnaaaDoor
open Go.RowKit

def dec4 (l : List UInt8) (n : Nat) : Nat := ((gb l n ||| gb l (n + 1) * 256) ||| gb l (n + 2) * 65536) ||| gb l (n + 3) * 16777216
def openE (l : List UInt8) : Nat := if l.length < 4 then 2 else if dec4 l (l.length - 4) = crcN [l.take (l.length - 4)] then 0 else 10
def openL (l : List UInt8) : List UInt8 := if openE l = 0 then l.take (l.length - 4) else []
theorem or_lt32 (a b : Nat) (ha : a < 4294967296) (hb : b < 4294967296) : a ||| b < 4294967296 := Nat.or_lt_two_pow (n := 32) ha hb

set_option maxHeartbeats 1000000 in
theorem open_calls (A : Option Addr) (c : Nat) (l : List UInt8) (w : World) (hN : Nib w) (h : RB w A l) (hlc : l.length ≤ c) (hl : l.length ≤ 140737488351232) :
    Calls Tryd.prog 24 #[.slice A l.length c] w fun e w' => ∃ v, e = .returned (.tuple #[v, .int .i64 (openE l : Nat)]) ∧ OwnB w.heap.size 5 w' v (openL l) ∧ Below w.heap.size w w' := by
  have H := Lib.hid h
  clear h
  have HN := Lib.hid hN
  clear hN
  by_cases h4 : l.length < 4
  · have E : Hid (openE l = 2) := by unfold openE; rw [if_pos h4]; exact Lib.hid rfl
    go_enter Tryd.func24, Tryd.ntmps24
    go_wp2
    go_ret2
    exact ⟨_, by rw [E.out]; rfl, by unfold openL; rw [E.out]; exact OwnB.nil _ _ _, Below.refl _ _⟩
  · obtain ⟨n, hn⟩ : ∃ n, l.length = n + 4 := ⟨l.length - 4, by omega⟩
    have E : Hid (openE l = if dec4 l n = crcN [l.take n] then 0 else 10) := by
      unfold openE; rw [if_neg h4, show l.length - 4 = n by omega]; exact Lib.hid rfl
    have EL : Hid (openL l = if openE l = 0 then l.take n else []) := by
      unfold openL; rw [show l.length - 4 = n by omega]; exact Lib.hid rfl
    obtain ⟨b, o, rfl, hc⟩ := H.out.form (by omega)
    have ht : (l.take n).length = n := by rw [List.length_take]; omega
    have HT := Lib.hid ht
    clear ht
    have c0 := hc n (by omega)
    have c1 := hc (n + 1) (by omega)
    have c2 := hc (n + 2) (by omega)
    have c3 := hc (n + 3) (by omega)
    clear hc h4
    have g0 := gb_lt l n
    have g1 := gb_lt l (n + 1)
    have g2 := gb_lt l (n + 2)
    have g3 := gb_lt l (n + 3)
    have ED : Hid (dec4 l n = ((gb l n ||| gb l (n + 1) * 256) ||| gb l (n + 2) * 65536) ||| gb l (n + 3) * 16777216) := rfl
    have hl2 : n + 4 ≤ 140737488351232 := by omega
    rw [hn] at hlc
    have HW := Lib.hid (rfl : l.length = l.length)
    rw [hn]
    have HLN := Lib.hid hn
    clear hn hl
    generalize gb l n = y0 at *
    generalize gb l (n + 1) = y1 at *
    generalize gb l (n + 2) = y2 at *
    generalize gb l (n + 3) = y3 at *
    have l1 := or_lt32 y0 (y1 * 256) (by omega) (by omega)
    have l2 := or_lt32 _ (y2 * 65536) l1 (by omega)
    have x1 : bits .or .u32 (y0 : Int) ((y1 : Int) * 256) = ((y0 ||| y1 * 256 : Nat) : Int) := or_u32 y0 (y1 * 256) (by omega) (by omega)
    have x2 : bits .or .u32 ((y0 ||| y1 * 256 : Nat) : Int) ((y2 : Int) * 65536) = (((y0 ||| y1 * 256) ||| y2 * 65536 : Nat) : Int) := or_u32 _ (y2 * 65536) l1 (by omega)
    have x3 : bits .or .u32 (((y0 ||| y1 * 256) ||| y2 * 65536 : Nat) : Int) ((y3 : Int) * 16777216) = ((((y0 ||| y1 * 256) ||| y2 * 65536) ||| y3 * 16777216 : Nat) : Int) := or_u32 _ (y3 * 16777216) l2 (by omega)
    go_enter Tryd.func24, Tryd.ntmps24
    go_wp2
    have i1 : IntKind.i64.wrap ((n : Int) + 1) = (n : Int) + 1 := IntWalk.i64_in _ (by omega)
    have i2 : IntKind.i64.wrap ((n : Int) + 2) = (n : Int) + 2 := IntWalk.i64_in _ (by omega)
    have i3 : IntKind.i64.wrap ((n : Int) + 3) = (n : Int) + 3 := IntWalk.i64_in _ (by omega)
    have j1 : (0 : Int) ≤ (n : Int) + 1 := by omega
    have j2 : (0 : Int) ≤ (n : Int) + 2 := by omega
    have j3 : (0 : Int) ≤ (n : Int) + 3 := by omega
    have t1 : ((n : Int) + 1).toNat = n + 1 := by omega
    have t2 : ((n : Int) + 2).toNat = n + 2 := by omega
    have t3 : ((n : Int) + 3).toNat = n + 3 := by omega
    have u1 : IntKind.u32.wrap ((y1 : Int) * 256) = (y1 : Int) * 256 := IntWalk.u32_in _ (by omega)
    have u2 : IntKind.u32.wrap ((y2 : Int) * 65536) = (y2 : Int) * 65536 := IntWalk.u32_in _ (by omega)
    have u3 : IntKind.u32.wrap ((y3 : Int) * 16777216) = (y3 : Int) * 16777216 := IntWalk.u32_in _ (by omega)
    go_quiet (fail)
    clear i1 i2 i3 j1 j2 j3 t1 t2 t3 u1 u2 u3 x1 x2 x3 c0 c1 c2 c3 g0 g1 g2 g3 l1 l2 HW
    generalize (((y0 ||| y1 * 256) ||| y2 * 65536) ||| y3 * 16777216) = z at *
    have hN2 : Nib (w.drewN nq) := HN.out
    have hR2 : RB (w.drewN nq) (some ⟨b, o, none⟩) (l.take n) := H.out.take n
    have HN2 := Lib.hid hN2
    have HR2 := Lib.hid hR2
    clear hN2 hR2
    by_cases he : z = crcN [l.take n]
    · have hd : ((z : Int) != (crcN [l.take n] : Int)) = false := by rw [bne_eq_false_iff_eq]; omega
      have HE := Lib.hid he
      clear he
      go_wp2_with (first
        | (go_at_call 14; refine (crc_calls _ _ [l.take n] _ (HN2.out.ext (ext_alloc _ _)) (RBB.one _ c n (l.take n) HR2.out HT.out.symm (by omega) _) (by simp) (by simp; omega)).mono ?_; rintro e w' ⟨rfl, rfl⟩)
        | (at_builtin; refine wpList_appB rfl _ _ 22 rfl w.heap.size 5 Tryd.underlying22 infoB _ [] rfl (OwnB.lit' _ _ _ [] _ _ (by simp) (by simp) (by simp) rfl) _ _ _ (l.take n) rfl HT.out ((HR2.out.ext (ext_alloc _ _)).ext (ext_alloc _ _)) (by rw [HT.out]; (try simp) <;> omega) (by (try simp) <;> omega) ?_))
      intro v1 w1 ho hg _
      have hb := (OwnB.lit' w.heap.size 5 ((w.drewN nq).alloc (.cells #[.slice (some ⟨b, o, none⟩) n c] 22)) [] (w.heap.size + 1) 0 (by simp) (by simp) (by simp) rfl).below ((((ext_drewN (Below.refl w.heap.size w) nq).alloc (by simp) _).alloc (by (try simp) <;> omega) _)) hg (by (try simp) <;> omega)
      have HB := Lib.hid hb
      have HO := Lib.hid ho
      clear ho hb hg
      go_wp2
      go_ret2
      have E0 : openE l = 0 := by rw [E.out, ED.out, if_pos HE.out]
      exact ⟨_, by rw [E0]; rfl, by rw [EL.out, if_pos E0]; exact HO.out, HB.out⟩
    · have hd : ((z : Int) != (crcN [l.take n] : Int)) = true := by rw [bne_iff_ne]; omega
      have HE := Lib.hid he
      clear he
      go_wp2_with (go_at_call 14; refine (crc_calls _ _ [l.take n] _ (HN2.out.ext (ext_alloc _ _)) (RBB.one _ c n (l.take n) HR2.out HT.out.symm (by omega) _) (by simp) (by simp; omega)).mono ?_; rintro e w' ⟨rfl, rfl⟩)
      go_ret2
      have E0 : openE l = 10 := by rw [E.out, ED.out, if_neg HE.out]
      exact ⟨_, by rw [E0]; rfl, by rw [EL.out, E0]; exact OwnB.nil _ _ _, (ext_drewN (Below.refl w.heap.size w) nq).alloc (by simp) _⟩
end Go.Proofs.YtnknkmpdkdpnaaaDoor
