/- The walks of slices.Clone, bytes.Equal and of sums' and the reference's seals. -/
import Derived.Test.YtnknkmpdkdpnaaaDoorProg
import Derived.Test.YtnknkmpdkdpnaaaDoorSumsA
import Derived.Test.YtnknkmpdkdpnaaaDoorSumsB
import Derived.Test.YtnknkmpdkdpnaaaDoorOwn
import Derived.Deep.QuietTactic
import Derived.BigQuiet
namespace Go.Proofs.YtnknkmpdkdpnaaaDoor
open Go.RowKit

theorem infoB : (Tryd.prog.info? 5).map (fun i => (i.zero, i.size, i.bytes)) = some (some (.int .u8 0), 1, 1) := by kernel_rfl

set_option maxHeartbeats 400000 in
theorem clone_calls (A : Option Addr) (c : Nat) (l : List UInt8) (w : World) (h : RB w A l) (hl : l.length ≤ 140737488351232) :
    Calls Tryd.prog 22 #[.slice A l.length c] w fun e w' => ∃ v, e = .returned v ∧ OwnB w.heap.size 5 w' v l ∧ Below w.heap.size w w' := by
  have ke := fun (W : World) (n : Nat) => Lib.run_eql_slice_nil (P := Tryd.prog) W 22 5 A n c 0 0 Tryd.underlying22
  cases A with
  | none =>
    obtain rfl : l = [] := by
      cases l with
      | nil => rfl
      | cons x r => obtain ⟨b, o, e, _⟩ := h 0 (by simp); cases e
    clear h
    go_enter Tryd.func22, Tryd.ntmps22
    go_wp2
    go_ret
    exact ⟨_, rfl, OwnB.nil _ _ _, Below.refl _ _⟩
  | some ad =>
    have H := Lib.hid h
    clear h
    go_enter Tryd.func22, Tryd.ntmps22
    go_wp2_with (at_builtin; refine wpList_appB rfl _ _ 22 rfl w.heap.size 5 Tryd.underlying22 infoB _ [] rfl (OwnB.lit _ _ w [] (Nat.le_refl _) (by simp)) _ _ _ l rfl rfl (H.out.ext (ext_alloc _ _)) (by simp; omega) (by simp) ?_)
    intro v' w' ho hg _
    have hb := Lib.hid ((OwnB.lit w.heap.size 5 w [] (Nat.le_refl _) (by simp)).below (ext_alloc w _) hg (by simp))
    have ho' := Lib.hid ho
    clear ho hg
    go_wp2
    go_ret
    exact ⟨_, rfl, ho'.out, hb.out⟩

set_option maxHeartbeats 400000 in
theorem equal_calls (A B : Option Addr) (c d : Nat) (l m : List UInt8) (w : World) (h : RB w A l) (k : RB w B m) :
    Calls Tryd.prog 25 #[.slice A l.length c, .slice B m.length d] w fun e w' => e = .returned (.bool (l == m)) ∧ w = w' := by
  have k1 := conv_str (P := Tryd.prog) Tryd.underlying22 Tryd.underlying5 Tryd.underlying9 h l.length c rfl
  have k2 := conv_str (P := Tryd.prog) Tryd.underlying22 Tryd.underlying5 Tryd.underlying9 k m.length d rfl
  have k3 := strB_toList
  clear h k
  go_enter Tryd.func25, Tryd.ntmps25
  go_wp2
  go_ret
  exact ⟨rfl, rfl⟩

/-- One part as a list of parts: what '[][]byte{b}' leaves. -/
theorem RBB.one {w : World} (A : Option Addr) (c n : Nat) (l : List UInt8) (h : RB w A l) (hn : n = l.length) (hc : n ≤ c) (e : TypeId) :
    RBB (w.alloc (.cells #[.slice A n c] e)) (some ⟨w.heap.size, 0, none⟩) [l] := by
  subst hn
  intro i hi
  obtain rfl : i = 0 := by simpa using hi
  exact ⟨w.heap.size, 0, A, c, rfl, by simp, h.ext (ext_alloc _ _), hc⟩

/-- The four bytes of a number, the lowest first. -/
def le4 (n : Nat) : List UInt8 := [UInt8.ofNat n, UInt8.ofNat (n / 256), UInt8.ofNat (n / 65536), UInt8.ofNat (n / 16777216)]
theorem vb_ofNat (n : Nat) : vb (UInt8.ofNat n) = .int .u8 ((n % 256 : Nat) : Int) := by simp [vb]
theorem RB.le4 (w : World) (e : TypeId) (n : Nat) (hn : n < 4294967296) :
    RB (w.alloc (.cells #[.int .u8 ((n : Int) % 256), .int .u8 ((n : Int) / 256 % 256), .int .u8 ((n : Int) / 65536 % 256), .int .u8 ((n : Int) / 16777216)] e)) (some ⟨w.heap.size, 0, none⟩) (le4 n) := by
  intro i hi
  refine ⟨w.heap.size, 0, rfl, ?_⟩
  have hi' : i < 4 := by simpa [Go.Proofs.YtnknkmpdkdpnaaaDoor.le4] using hi
  match i, hi' with
  | 0, _ => simp [gb, Go.Proofs.YtnknkmpdkdpnaaaDoor.le4]
  | 1, _ => simp [gb, Go.Proofs.YtnknkmpdkdpnaaaDoor.le4]
  | 2, _ => simp [gb, Go.Proofs.YtnknkmpdkdpnaaaDoor.le4]
  | 3, _ => simp [gb, Go.Proofs.YtnknkmpdkdpnaaaDoor.le4]; omega
theorem le4_length (n : Nat) : (le4 n).length = 4 := rfl
def sealL (l : List UInt8) : List UInt8 := l ++ le4 (crcN [l])
theorem crcN_lt (ls : List (List UInt8)) : crcN ls < 4294967296 := by unfold crcN; omega

set_option maxHeartbeats 400000 in
theorem seal_calls (A : Option Addr) (c : Nat) (l : List UInt8) (w : World) (hN : Nib w) (h : RB w A l) (hlc : l.length ≤ c) (hl : l.length ≤ 140737488351232) :
    Calls Tryd.prog 23 #[.slice A l.length c] w fun e w' => ∃ v, e = .returned v ∧ OwnB w.heap.size 5 w' v (sealL l) ∧ Below w.heap.size w w' := by
  have H := Lib.hid h
  clear h
  have HN := Lib.hid hN
  clear hN
  have HC := Lib.hid hlc
  clear hlc
  have hcl := crcN_lt [l]
  go_enter Tryd.func23, Tryd.ntmps23
  go_wp2_with (first
    | (go_at_call 14; refine (crc_calls _ _ [l] _ (HN.out.ext (ext_alloc _ _)) (RBB.one A c l.length l H.out rfl HC.out _) (by simp) (by simp; omega)).mono ?_; rintro e w' ⟨rfl, rfl⟩)
    | (at_make; refine wpList_makeB rfl _ _ 22 rfl w.heap.size 5 Tryd.underlying22 infoB _ _ _ (l.length + 4) rfl rfl (by omega) (by omega) (by simp) ?_))
  intro w1 ho hg
  have hb := grown_none (ext_alloc w _) hg (by simp)
  clear hg
  have hs1 := hb.size
  have HB := Lib.hid hb
  have HO := Lib.hid ho
  clear ho hb
  generalize (Value.slice (some ⟨w.heap.size + 1, 0, none⟩) 0 (l.length + 4)) = v1 at *
  go_wp2_with (at_builtin; refine wpList_appB rfl _ _ 22 rfl w.heap.size 5 Tryd.underlying22 infoB _ [] rfl HO.out _ _ _ l rfl rfl (H.out.ext HB.out) (by simp; omega) (by omega) ?_)
  intro v2 w2 ho hg _
  have hb := HO.out.below HB.out hg (by omega)
  clear HO HB hg
  have hs2 := hb.size
  have HB := Lib.hid hb
  have HO := Lib.hid ho
  clear ho hb
  go_wp2_with (at_builtin; refine wpList_appB rfl _ _ 22 rfl w.heap.size 5 Tryd.underlying22 infoB _ l rfl (HO.out.ext (ext_alloc _ _)) _ _ _ (le4 (crcN [l])) rfl rfl (RB.le4 _ _ _ hcl) (by rw [le4_length]; omega) (by simp; omega) ?_)
  intro v3 w3 ho hg _
  have hb := (HO.out.ext (ext_alloc _ _)).below (HB.out.alloc hs2 _) hg (by simp; omega)
  clear HO HB hg
  have HB := Lib.hid hb
  have HO := Lib.hid ho
  clear ho hb
  go_wp2
  go_ret
  exact ⟨_, rfl, HO.out, HB.out⟩
end Go.Proofs.YtnknkmpdkdpnaaaDoor
