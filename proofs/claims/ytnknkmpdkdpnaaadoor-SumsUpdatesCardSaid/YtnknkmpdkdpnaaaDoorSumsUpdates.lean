/- SumsUpdates: for all three words, the program's updated check sum is the reference's. -/
import Derived.Test.YtnknkmpdkdpnaaaDoorSumsE
namespace Go.Proofs.YtnknkmpdkdpnaaaDoor
open Go.RowKit
set_option maxHeartbeats 1000000 in
theorem updates_calls (w : World) (hN : Nib w) (s : Nat) (hs : s ≤ 65535) (o : Nat) (ho : o ≤ 65535) (n : Nat) (hn : n ≤ 65535) :
    Calls Tryd.prog 4 #[.int .u16 (s : Int), .int .u16 (o : Int), .int .u16 (n : Int)] w fun e w' => e = .returned (.bool true) ∧ Below w.heap.size w w' := by
  have HN := Lib.hid hN
  clear hN
  go_enter Tryd.func4, Tryd.ntmps4
  go_wp2_with fail
  refine (update_calls s o n hs ho hn _).mono ?_
  rintro e w' ⟨rfl, rfl⟩
  go_wp2_with fail
  refine (rupdate_calls s o n hs ho hn _).mono ?_
  rintro e w1 ⟨rfl, hb1⟩
  have HB := Lib.hid hb1
  clear hb1
  go_wp2_with fail
  refine (awake_calls _ (HN.out.ext HB.out)).mono ?_
  rintro e w2 ⟨rfl, hb2⟩
  have HB2 := Lib.hid hb2
  clear hb2
  go_wp2
  go_ret
  exact ⟨rfl, ext_trans HB.out HB2.out⟩
end Go.Proofs.YtnknkmpdkdpnaaaDoor
