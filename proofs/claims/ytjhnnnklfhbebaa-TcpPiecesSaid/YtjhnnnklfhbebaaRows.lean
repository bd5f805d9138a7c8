/-
  No cell of these rows narrows 'for every input' (looked for: loops, veiled, ifaces, maps, wideKeys, modest, calm, conditions, laid).
  DERIVED. THE GIVEN ROWS OF THIS SEAT. 10 by the template 'for every input the law returns true; each argument reads behind the call as it read before'; 0 by the template 'total and deterministic' (their statements: YtjhnnnklfhbebaaTotals.lean).
  GIVEN WITH THE SEED: the statements are not yours to turn. If you find one false, say at which input.
  Laid BY PROGRAM, IN A SANDBOX (cutbox-rows.mjs): the forced cells as the released guide's own fill.sh prints them over the translation 1b2616a26fbc4cd8… (all of the seat's roots in one cut). By AI agents, Wed Nov 11 2026. No macro, syntax, notation, axiom, sorry.
-/
import Derived.Test.YtjhnnnklfhbebaaChecked
import GoSem.Claim
import GoSem.ClaimJoined
import GoSem.ClaimMapViews
import Derived.JoinedTies
import Derived.KernelRfl
namespace Go.Proofs.Ytjhnnnklfhbebaa
/- THE CELL 'sum', in the pinned program and in every row, IS THE sha256 OF THE DUMP (.gsa) THAT YtjhnnnklfhbebaaProg.lean LOADS. Nothing in Lean hashes anything: it is a label: what it is worth is what the hold of that sum in a sandbox is worth. -/
noncomputable def Try.pinned : Pinned := { name := "ytjhnnnklfhbebaa", sum := "1b2616a26fbc4cd8f1fc4ec71c27bf2c88ca52505ca9852abb8a01024063a7f0", checked := Try.checked }
namespace Rows
def none {H : Type} : Left H := { results := [], args := [] }

/-- 'flumelaw13.TcpTalks': WHATEVER THE INPUT: true; the input reads as it did. -/
def tcpTalksSpec : ChangeSpec := { name := "tcpTalks", fn := fun _ => fun
  | [d1, d2, d3] => { results := [.lit (.bool true)], args := [d1, d2, d3] }
  | _ => none }
def tcpTalksRow : OpenClaim := { program := "ytjhnnnklfhbebaa", sum := "1b2616a26fbc4cd8f1fc4ec71c27bf2c88ca52505ca9852abb8a01024063a7f0", func := "flume/flumelaw13.TcpTalks", spec := "tcpTalks", unfollowed := true, recurses := true, apart := false }
def TcpTalksSaid : Prop := tcpTalksRow.holds Try.pinned (OpenSpec.ofChange tcpTalksSpec)

/-- ITS FALSE NEIGHBOUR: 'it returns false'. Refute it at one input. -/
def tcpTalksWrong : ChangeSpec := { name := "tcpTalks", fn := fun _ => fun
  | [d1, d2, d3] => { results := [.lit (.bool false)], args := [d1, d2, d3] }
  | _ => none }
def TcpTalksWrongFalsely : Prop := tcpTalksRow.holds Try.pinned (OpenSpec.ofChange tcpTalksWrong)

/-- 'flumelaw13.TcpSame': WHATEVER THE INPUT: true; the input reads as it did. -/
def tcpSameSpec : ChangeSpec := { name := "tcpSame", fn := fun _ => fun
  | [d1, d2, d3, d4] => { results := [.lit (.bool true)], args := [d1, d2, d3, d4] }
  | _ => none }
def tcpSameRow : OpenClaim := { program := "ytjhnnnklfhbebaa", sum := "1b2616a26fbc4cd8f1fc4ec71c27bf2c88ca52505ca9852abb8a01024063a7f0", func := "flume/flumelaw13.TcpSame", spec := "tcpSame", unfollowed := true, recurses := true, apart := false }
def TcpSameSaid : Prop := tcpSameRow.holds Try.pinned (OpenSpec.ofChange tcpSameSpec)

/-- ITS FALSE NEIGHBOUR: 'it returns false'. Refute it at one input. -/
def tcpSameWrong : ChangeSpec := { name := "tcpSame", fn := fun _ => fun
  | [d1, d2, d3, d4] => { results := [.lit (.bool false)], args := [d1, d2, d3, d4] }
  | _ => none }
def TcpSameWrongFalsely : Prop := tcpSameRow.holds Try.pinned (OpenSpec.ofChange tcpSameWrong)

/-- 'flumelaw13.TcpNobody': WHATEVER THE INPUT: true; the input reads as it did. -/
def tcpNobodySpec : ChangeSpec := { name := "tcpNobody", fn := fun _ => fun
  | [d] => { results := [.lit (.bool true)], args := [d] }
  | _ => none }
def tcpNobodyRow : OpenClaim := { program := "ytjhnnnklfhbebaa", sum := "1b2616a26fbc4cd8f1fc4ec71c27bf2c88ca52505ca9852abb8a01024063a7f0", func := "flume/flumelaw13.TcpNobody", spec := "tcpNobody", apart := false }
def TcpNobodySaid : Prop := tcpNobodyRow.holds Try.pinned (OpenSpec.ofChange tcpNobodySpec)

/-- ITS FALSE NEIGHBOUR: 'it returns false'. Refute it at one input. -/
def tcpNobodyWrong : ChangeSpec := { name := "tcpNobody", fn := fun _ => fun
  | [d] => { results := [.lit (.bool false)], args := [d] }
  | _ => none }
def TcpNobodyWrongFalsely : Prop := tcpNobodyRow.holds Try.pinned (OpenSpec.ofChange tcpNobodyWrong)

/-- 'flumelaw13.TcpBounds': WHATEVER THE INPUT: true; the input reads as it did. -/
def tcpBoundsSpec : ChangeSpec := { name := "tcpBounds", fn := fun _ => fun
  | [d1, d2, d3] => { results := [.lit (.bool true)], args := [d1, d2, d3] }
  | _ => none }
def tcpBoundsRow : OpenClaim := { program := "ytjhnnnklfhbebaa", sum := "1b2616a26fbc4cd8f1fc4ec71c27bf2c88ca52505ca9852abb8a01024063a7f0", func := "flume/flumelaw13.TcpBounds", spec := "tcpBounds", apart := false }
def TcpBoundsSaid : Prop := tcpBoundsRow.holds Try.pinned (OpenSpec.ofChange tcpBoundsSpec)

/-- ITS FALSE NEIGHBOUR: 'it returns false'. Refute it at one input. -/
def tcpBoundsWrong : ChangeSpec := { name := "tcpBounds", fn := fun _ => fun
  | [d1, d2, d3] => { results := [.lit (.bool false)], args := [d1, d2, d3] }
  | _ => none }
def TcpBoundsWrongFalsely : Prop := tcpBoundsRow.holds Try.pinned (OpenSpec.ofChange tcpBoundsWrong)

/-- 'flumelaw13.TcpOver': WHATEVER THE INPUT: true; the input reads as it did. -/
def tcpOverSpec : ChangeSpec := { name := "tcpOver", fn := fun _ => fun
  | [d1, d2, d3, d4] => { results := [.lit (.bool true)], args := [d1, d2, d3, d4] }
  | _ => none }
def tcpOverRow : OpenClaim := { program := "ytjhnnnklfhbebaa", sum := "1b2616a26fbc4cd8f1fc4ec71c27bf2c88ca52505ca9852abb8a01024063a7f0", func := "flume/flumelaw13.TcpOver", spec := "tcpOver", apart := false }
def TcpOverSaid : Prop := tcpOverRow.holds Try.pinned (OpenSpec.ofChange tcpOverSpec)

/-- ITS FALSE NEIGHBOUR: 'it returns false'. Refute it at one input. -/
def tcpOverWrong : ChangeSpec := { name := "tcpOver", fn := fun _ => fun
  | [d1, d2, d3, d4] => { results := [.lit (.bool false)], args := [d1, d2, d3, d4] }
  | _ => none }
def TcpOverWrongFalsely : Prop := tcpOverRow.holds Try.pinned (OpenSpec.ofChange tcpOverWrong)

/-- 'flumelaw13.TcpOrder': WHATEVER THE INPUT: true; the input reads as it did. -/
def tcpOrderSpec : ChangeSpec := { name := "tcpOrder", fn := fun _ => fun
  | [d1, d2, d3] => { results := [.lit (.bool true)], args := [d1, d2, d3] }
  | _ => none }
def tcpOrderRow : OpenClaim := { program := "ytjhnnnklfhbebaa", sum := "1b2616a26fbc4cd8f1fc4ec71c27bf2c88ca52505ca9852abb8a01024063a7f0", func := "flume/flumelaw13.TcpOrder", spec := "tcpOrder", apart := false }
def TcpOrderSaid : Prop := tcpOrderRow.holds Try.pinned (OpenSpec.ofChange tcpOrderSpec)

/-- ITS FALSE NEIGHBOUR: 'it returns false'. Refute it at one input. -/
def tcpOrderWrong : ChangeSpec := { name := "tcpOrder", fn := fun _ => fun
  | [d1, d2, d3] => { results := [.lit (.bool false)], args := [d1, d2, d3] }
  | _ => none }
def TcpOrderWrongFalsely : Prop := tcpOrderRow.holds Try.pinned (OpenSpec.ofChange tcpOrderWrong)

/-- 'flumelaw13.TcpSettles': WHATEVER THE INPUT: true; the input reads as it did. -/
def tcpSettlesSpec : ChangeSpec := { name := "tcpSettles", fn := fun _ => fun
  | [d1, d2, d3] => { results := [.lit (.bool true)], args := [d1, d2, d3] }
  | _ => none }
def tcpSettlesRow : OpenClaim := { program := "ytjhnnnklfhbebaa", sum := "1b2616a26fbc4cd8f1fc4ec71c27bf2c88ca52505ca9852abb8a01024063a7f0", func := "flume/flumelaw13.TcpSettles", spec := "tcpSettles", apart := false }
def TcpSettlesSaid : Prop := tcpSettlesRow.holds Try.pinned (OpenSpec.ofChange tcpSettlesSpec)

/-- ITS FALSE NEIGHBOUR: 'it returns false'. Refute it at one input. -/
def tcpSettlesWrong : ChangeSpec := { name := "tcpSettles", fn := fun _ => fun
  | [d1, d2, d3] => { results := [.lit (.bool false)], args := [d1, d2, d3] }
  | _ => none }
def TcpSettlesWrongFalsely : Prop := tcpSettlesRow.holds Try.pinned (OpenSpec.ofChange tcpSettlesWrong)

/-- 'flumelaw13.TcpPieces': WHATEVER THE INPUT: true; the input reads as it did. -/
def tcpPiecesSpec : ChangeSpec := { name := "tcpPieces", fn := fun _ => fun
  | [d1, d2, d3, d4] => { results := [.lit (.bool true)], args := [d1, d2, d3, d4] }
  | _ => none }
def tcpPiecesRow : OpenClaim := { program := "ytjhnnnklfhbebaa", sum := "1b2616a26fbc4cd8f1fc4ec71c27bf2c88ca52505ca9852abb8a01024063a7f0", func := "flume/flumelaw13.TcpPieces", spec := "tcpPieces", apart := false }
def TcpPiecesSaid : Prop := tcpPiecesRow.holds Try.pinned (OpenSpec.ofChange tcpPiecesSpec)

/-- ITS FALSE NEIGHBOUR: 'it returns false'. Refute it at one input. -/
def tcpPiecesWrong : ChangeSpec := { name := "tcpPieces", fn := fun _ => fun
  | [d1, d2, d3, d4] => { results := [.lit (.bool false)], args := [d1, d2, d3, d4] }
  | _ => none }
def TcpPiecesWrongFalsely : Prop := tcpPiecesRow.holds Try.pinned (OpenSpec.ofChange tcpPiecesWrong)

/-- 'flumelaw13.TcpDials': WHATEVER THE INPUT: true; the input reads as it did. -/
def tcpDialsSpec : ChangeSpec := { name := "tcpDials", fn := fun _ => fun
  | [d1, d2, d3] => { results := [.lit (.bool true)], args := [d1, d2, d3] }
  | _ => none }
def tcpDialsRow : OpenClaim := { program := "ytjhnnnklfhbebaa", sum := "1b2616a26fbc4cd8f1fc4ec71c27bf2c88ca52505ca9852abb8a01024063a7f0", func := "flume/flumelaw13.TcpDials", spec := "tcpDials", unfollowed := true, recurses := true, apart := false }
def TcpDialsSaid : Prop := tcpDialsRow.holds Try.pinned (OpenSpec.ofChange tcpDialsSpec)

/-- ITS FALSE NEIGHBOUR: 'it returns false'. Refute it at one input. -/
def tcpDialsWrong : ChangeSpec := { name := "tcpDials", fn := fun _ => fun
  | [d1, d2, d3] => { results := [.lit (.bool false)], args := [d1, d2, d3] }
  | _ => none }
def TcpDialsWrongFalsely : Prop := tcpDialsRow.holds Try.pinned (OpenSpec.ofChange tcpDialsWrong)

/-- 'flumelaw13.TcpAccepts': WHATEVER THE INPUT: true; the input reads as it did. -/
def tcpAcceptsSpec : ChangeSpec := { name := "tcpAccepts", fn := fun _ => fun
  | [d1, d2, d3] => { results := [.lit (.bool true)], args := [d1, d2, d3] }
  | _ => none }
def tcpAcceptsRow : OpenClaim := { program := "ytjhnnnklfhbebaa", sum := "1b2616a26fbc4cd8f1fc4ec71c27bf2c88ca52505ca9852abb8a01024063a7f0", func := "flume/flumelaw13.TcpAccepts", spec := "tcpAccepts", unfollowed := true, recurses := true, apart := false }
def TcpAcceptsSaid : Prop := tcpAcceptsRow.holds Try.pinned (OpenSpec.ofChange tcpAcceptsSpec)

/-- ITS FALSE NEIGHBOUR: 'it returns false'. Refute it at one input. -/
def tcpAcceptsWrong : ChangeSpec := { name := "tcpAccepts", fn := fun _ => fun
  | [d1, d2, d3] => { results := [.lit (.bool false)], args := [d1, d2, d3] }
  | _ => none }
def TcpAcceptsWrongFalsely : Prop := tcpAcceptsRow.holds Try.pinned (OpenSpec.ofChange tcpAcceptsWrong)

/- THE SECOND FORM. 'bulk': how many values and letters a reading holds, each counted each time it is reached (what is shared counts as often as it is met; a slice's spare places count too). A statement '..UptoSaid' is the law's where the arguments, and the package variables that the reading takes, are together of bulk at most 1048576: NARROWER than '..Said'. Prove '..Said' where nothing that the law and all that it calls make is longer than what came in: it says more and counts as full. Else prove '..UptoSaid'. A law counts once. -/
mutual
def uptoBulk {H : Type} : DataW H → Nat
  | .lit (.string bytes) => bytes.length + 1
  | .lit _ => 1
  | .nil => 1
  | .ptr d => uptoBulk d + 1
  | .slice elems spare => uptoBulkAll elems + uptoBulkAll spare + 1
  | .agg parts => uptoBulkAll parts + 1
  | .iface _ d => uptoBulk d + 1
  | .map entries => uptoBulkEntries entries + 1
  | .held _ => 1
def uptoBulkAll {H : Type} : List (DataW H) → Nat
  | [] => 0
  | d :: r => uptoBulk d + uptoBulkAll r
def uptoBulkEntries {H : Type} : List (Lit × DataW H) → Nat
  | [] => 0
  | x :: r => uptoBulkEntry x + uptoBulkEntries r
def uptoBulkEntry {H : Type} : Lit × DataW H → Nat
  | (.string bytes, d) => bytes.length + uptoBulk d + 1
  | (_, d) => uptoBulk d + 1
 end
def uptoSmall : (H : Type) → List (DataW H) → Bool := fun _ ds => decide (uptoBulkAll ds ≤ 1048576)
def OpenSpec.upto (s : _root_.Go.ChangeSpec) : _root_.Go.OpenSpec := { _root_.Go.OpenSpec.ofChange s with cond := some uptoSmall }

/-- 'flumelaw13.TcpTalks', WHERE WHAT IT READS IS OF BULK AT MOST 1048576: true; the input reads as it did. -/
def tcpTalksUptoRow : OpenClaim := { program := "ytjhnnnklfhbebaa", sum := "1b2616a26fbc4cd8f1fc4ec71c27bf2c88ca52505ca9852abb8a01024063a7f0", func := "flume/flumelaw13.TcpTalks", spec := "tcpTalks", unfollowed := true, recurses := true, apart := false, narrowed := true }
def TcpTalksUptoSaid : Prop := tcpTalksUptoRow.holds Try.pinned (OpenSpec.upto tcpTalksSpec)

/-- 'flumelaw13.TcpSame', WHERE WHAT IT READS IS OF BULK AT MOST 1048576: true; the input reads as it did. -/
def tcpSameUptoRow : OpenClaim := { program := "ytjhnnnklfhbebaa", sum := "1b2616a26fbc4cd8f1fc4ec71c27bf2c88ca52505ca9852abb8a01024063a7f0", func := "flume/flumelaw13.TcpSame", spec := "tcpSame", unfollowed := true, recurses := true, apart := false, narrowed := true }
def TcpSameUptoSaid : Prop := tcpSameUptoRow.holds Try.pinned (OpenSpec.upto tcpSameSpec)

/-- 'flumelaw13.TcpNobody', WHERE WHAT IT READS IS OF BULK AT MOST 1048576: true; the input reads as it did. -/
def tcpNobodyUptoRow : OpenClaim := { program := "ytjhnnnklfhbebaa", sum := "1b2616a26fbc4cd8f1fc4ec71c27bf2c88ca52505ca9852abb8a01024063a7f0", func := "flume/flumelaw13.TcpNobody", spec := "tcpNobody", apart := false, narrowed := true }
def TcpNobodyUptoSaid : Prop := tcpNobodyUptoRow.holds Try.pinned (OpenSpec.upto tcpNobodySpec)

/-- 'flumelaw13.TcpBounds', WHERE WHAT IT READS IS OF BULK AT MOST 1048576: true; the input reads as it did. -/
def tcpBoundsUptoRow : OpenClaim := { program := "ytjhnnnklfhbebaa", sum := "1b2616a26fbc4cd8f1fc4ec71c27bf2c88ca52505ca9852abb8a01024063a7f0", func := "flume/flumelaw13.TcpBounds", spec := "tcpBounds", apart := false, narrowed := true }
def TcpBoundsUptoSaid : Prop := tcpBoundsUptoRow.holds Try.pinned (OpenSpec.upto tcpBoundsSpec)

/-- 'flumelaw13.TcpOver', WHERE WHAT IT READS IS OF BULK AT MOST 1048576: true; the input reads as it did. -/
def tcpOverUptoRow : OpenClaim := { program := "ytjhnnnklfhbebaa", sum := "1b2616a26fbc4cd8f1fc4ec71c27bf2c88ca52505ca9852abb8a01024063a7f0", func := "flume/flumelaw13.TcpOver", spec := "tcpOver", apart := false, narrowed := true }
def TcpOverUptoSaid : Prop := tcpOverUptoRow.holds Try.pinned (OpenSpec.upto tcpOverSpec)

/-- 'flumelaw13.TcpOrder', WHERE WHAT IT READS IS OF BULK AT MOST 1048576: true; the input reads as it did. -/
def tcpOrderUptoRow : OpenClaim := { program := "ytjhnnnklfhbebaa", sum := "1b2616a26fbc4cd8f1fc4ec71c27bf2c88ca52505ca9852abb8a01024063a7f0", func := "flume/flumelaw13.TcpOrder", spec := "tcpOrder", apart := false, narrowed := true }
def TcpOrderUptoSaid : Prop := tcpOrderUptoRow.holds Try.pinned (OpenSpec.upto tcpOrderSpec)

/-- 'flumelaw13.TcpSettles', WHERE WHAT IT READS IS OF BULK AT MOST 1048576: true; the input reads as it did. -/
def tcpSettlesUptoRow : OpenClaim := { program := "ytjhnnnklfhbebaa", sum := "1b2616a26fbc4cd8f1fc4ec71c27bf2c88ca52505ca9852abb8a01024063a7f0", func := "flume/flumelaw13.TcpSettles", spec := "tcpSettles", apart := false, narrowed := true }
def TcpSettlesUptoSaid : Prop := tcpSettlesUptoRow.holds Try.pinned (OpenSpec.upto tcpSettlesSpec)

/-- 'flumelaw13.TcpPieces', WHERE WHAT IT READS IS OF BULK AT MOST 1048576: true; the input reads as it did. -/
def tcpPiecesUptoRow : OpenClaim := { program := "ytjhnnnklfhbebaa", sum := "1b2616a26fbc4cd8f1fc4ec71c27bf2c88ca52505ca9852abb8a01024063a7f0", func := "flume/flumelaw13.TcpPieces", spec := "tcpPieces", apart := false, narrowed := true }
def TcpPiecesUptoSaid : Prop := tcpPiecesUptoRow.holds Try.pinned (OpenSpec.upto tcpPiecesSpec)

/-- 'flumelaw13.TcpDials', WHERE WHAT IT READS IS OF BULK AT MOST 1048576: true; the input reads as it did. -/
def tcpDialsUptoRow : OpenClaim := { program := "ytjhnnnklfhbebaa", sum := "1b2616a26fbc4cd8f1fc4ec71c27bf2c88ca52505ca9852abb8a01024063a7f0", func := "flume/flumelaw13.TcpDials", spec := "tcpDials", unfollowed := true, recurses := true, apart := false, narrowed := true }
def TcpDialsUptoSaid : Prop := tcpDialsUptoRow.holds Try.pinned (OpenSpec.upto tcpDialsSpec)

/-- 'flumelaw13.TcpAccepts', WHERE WHAT IT READS IS OF BULK AT MOST 1048576: true; the input reads as it did. -/
def tcpAcceptsUptoRow : OpenClaim := { program := "ytjhnnnklfhbebaa", sum := "1b2616a26fbc4cd8f1fc4ec71c27bf2c88ca52505ca9852abb8a01024063a7f0", func := "flume/flumelaw13.TcpAccepts", spec := "tcpAccepts", unfollowed := true, recurses := true, apart := false, narrowed := true }
def TcpAcceptsUptoSaid : Prop := tcpAcceptsUptoRow.holds Try.pinned (OpenSpec.upto tcpAcceptsSpec)

end Rows
end Go.Proofs.Ytjhnnnklfhbebaa
