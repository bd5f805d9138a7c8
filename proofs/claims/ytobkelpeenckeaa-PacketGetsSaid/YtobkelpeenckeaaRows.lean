/-
  No cell of these rows narrows 'for every input' (looked for: loops, veiled, ifaces, maps, wideKeys, modest, calm, conditions, laid).
  DERIVED. THE GIVEN ROWS OF THIS SEAT. 10 by the template 'for every input the law returns true; each argument reads behind the call as it read before'; 0 by the template 'total and deterministic' (their statements: YtobkelpeenckeaaTotals.lean).
  GIVEN WITH THE SEED: the statements are not yours to turn. If you find one false, say at which input.
  Laid BY PROGRAM, IN A SANDBOX (cutbox-rows.mjs): the forced cells as the released guide's own fill.sh prints them over the translation cb1bf52251f44350… (all of the seat's roots in one cut). By AI agents, Wed Nov 11 2026. No macro, syntax, notation, axiom, sorry.
-/
import Derived.Test.YtobkelpeenckeaaChecked
import GoSem.Claim
import GoSem.ClaimJoined
import GoSem.ClaimMapViews
import Derived.JoinedTies
import Derived.KernelRfl
namespace Go.Proofs.Ytobkelpeenckeaa
/- THE CELL 'sum', in the pinned program and in every row, IS THE sha256 OF THE DUMP (.gsa) THAT YtobkelpeenckeaaProg.lean LOADS. Nothing in Lean hashes anything: it is a label: what it is worth is what the hold of that sum in a sandbox is worth. -/
noncomputable def Try.pinned : Pinned := { name := "ytobkelpeenckeaa", sum := "cb1bf52251f44350e21748fe503d2508e93c993dab85fa40bc64ef19e6f576d5", checked := Try.checked }
namespace Rows
def none {H : Type} : Left H := { results := [], args := [] }

/-- 'flumelaw04.PacketBack': WHATEVER THE INPUT: true; the input reads as it did. -/
def packetBackSpec : ChangeSpec := { name := "packetBack", fn := fun _ => fun
  | [d] => { results := [.lit (.bool true)], args := [d] }
  | _ => none }
def packetBackRow : OpenClaim := { program := "ytobkelpeenckeaa", sum := "cb1bf52251f44350e21748fe503d2508e93c993dab85fa40bc64ef19e6f576d5", func := "flume/flumelaw04.PacketBack", spec := "packetBack", apart := false }
def PacketBackSaid : Prop := packetBackRow.holds Try.pinned (OpenSpec.ofChange packetBackSpec)

/-- ITS FALSE NEIGHBOUR: 'it returns false'. Refute it at one input. -/
def packetBackWrong : ChangeSpec := { name := "packetBack", fn := fun _ => fun
  | [d] => { results := [.lit (.bool false)], args := [d] }
  | _ => none }
def PacketBackWrongFalsely : Prop := packetBackRow.holds Try.pinned (OpenSpec.ofChange packetBackWrong)

/-- 'flumelaw04.PacketTurned': WHATEVER THE INPUT: true; the input reads as it did. -/
def packetTurnedSpec : ChangeSpec := { name := "packetTurned", fn := fun _ => fun
  | [d1, d2, d3] => { results := [.lit (.bool true)], args := [d1, d2, d3] }
  | _ => none }
def packetTurnedRow : OpenClaim := { program := "ytobkelpeenckeaa", sum := "cb1bf52251f44350e21748fe503d2508e93c993dab85fa40bc64ef19e6f576d5", func := "flume/flumelaw04.PacketTurned", spec := "packetTurned", apart := false }
def PacketTurnedSaid : Prop := packetTurnedRow.holds Try.pinned (OpenSpec.ofChange packetTurnedSpec)

/-- ITS FALSE NEIGHBOUR: 'it returns false'. Refute it at one input. -/
def packetTurnedWrong : ChangeSpec := { name := "packetTurned", fn := fun _ => fun
  | [d1, d2, d3] => { results := [.lit (.bool false)], args := [d1, d2, d3] }
  | _ => none }
def PacketTurnedWrongFalsely : Prop := packetTurnedRow.holds Try.pinned (OpenSpec.ofChange packetTurnedWrong)

/-- 'flumelaw04.PacketTakes': WHATEVER THE INPUT: true; the input reads as it did. -/
def packetTakesSpec : ChangeSpec := { name := "packetTakes", fn := fun _ => fun
  | [d] => { results := [.lit (.bool true)], args := [d] }
  | _ => none }
def packetTakesRow : OpenClaim := { program := "ytobkelpeenckeaa", sum := "cb1bf52251f44350e21748fe503d2508e93c993dab85fa40bc64ef19e6f576d5", func := "flume/flumelaw04.PacketTakes", spec := "packetTakes", apart := false }
def PacketTakesSaid : Prop := packetTakesRow.holds Try.pinned (OpenSpec.ofChange packetTakesSpec)

/-- ITS FALSE NEIGHBOUR: 'it returns false'. Refute it at one input. -/
def packetTakesWrong : ChangeSpec := { name := "packetTakes", fn := fun _ => fun
  | [d] => { results := [.lit (.bool false)], args := [d] }
  | _ => none }
def PacketTakesWrongFalsely : Prop := packetTakesRow.holds Try.pinned (OpenSpec.ofChange packetTakesWrong)

/-- 'flumelaw04.PacketRefused': WHATEVER THE INPUT: true; the input reads as it did. -/
def packetRefusedSpec : ChangeSpec := { name := "packetRefused", fn := fun _ => fun
  | [d] => { results := [.lit (.bool true)], args := [d] }
  | _ => none }
def packetRefusedRow : OpenClaim := { program := "ytobkelpeenckeaa", sum := "cb1bf52251f44350e21748fe503d2508e93c993dab85fa40bc64ef19e6f576d5", func := "flume/flumelaw04.PacketRefused", spec := "packetRefused", apart := false }
def PacketRefusedSaid : Prop := packetRefusedRow.holds Try.pinned (OpenSpec.ofChange packetRefusedSpec)

/-- ITS FALSE NEIGHBOUR: 'it returns false'. Refute it at one input. -/
def packetRefusedWrong : ChangeSpec := { name := "packetRefused", fn := fun _ => fun
  | [d] => { results := [.lit (.bool false)], args := [d] }
  | _ => none }
def PacketRefusedWrongFalsely : Prop := packetRefusedRow.holds Try.pinned (OpenSpec.ofChange packetRefusedWrong)

/-- 'flumelaw04.PacketPuts': WHATEVER THE INPUT: true; the input reads as it did. -/
def packetPutsSpec : ChangeSpec := { name := "packetPuts", fn := fun _ => fun
  | [d] => { results := [.lit (.bool true)], args := [d] }
  | _ => none }
def packetPutsRow : OpenClaim := { program := "ytobkelpeenckeaa", sum := "cb1bf52251f44350e21748fe503d2508e93c993dab85fa40bc64ef19e6f576d5", func := "flume/flumelaw04.PacketPuts", spec := "packetPuts", apart := false }
def PacketPutsSaid : Prop := packetPutsRow.holds Try.pinned (OpenSpec.ofChange packetPutsSpec)

/-- ITS FALSE NEIGHBOUR: 'it returns false'. Refute it at one input. -/
def packetPutsWrong : ChangeSpec := { name := "packetPuts", fn := fun _ => fun
  | [d] => { results := [.lit (.bool false)], args := [d] }
  | _ => none }
def PacketPutsWrongFalsely : Prop := packetPutsRow.holds Try.pinned (OpenSpec.ofChange packetPutsWrong)

/-- 'flumelaw04.PacketGets': WHATEVER THE INPUT: true; the input reads as it did. -/
def packetGetsSpec : ChangeSpec := { name := "packetGets", fn := fun _ => fun
  | [d] => { results := [.lit (.bool true)], args := [d] }
  | _ => none }
def packetGetsRow : OpenClaim := { program := "ytobkelpeenckeaa", sum := "cb1bf52251f44350e21748fe503d2508e93c993dab85fa40bc64ef19e6f576d5", func := "flume/flumelaw04.PacketGets", spec := "packetGets", apart := false }
def PacketGetsSaid : Prop := packetGetsRow.holds Try.pinned (OpenSpec.ofChange packetGetsSpec)

/-- ITS FALSE NEIGHBOUR: 'it returns false'. Refute it at one input. -/
def packetGetsWrong : ChangeSpec := { name := "packetGets", fn := fun _ => fun
  | [d] => { results := [.lit (.bool false)], args := [d] }
  | _ => none }
def PacketGetsWrongFalsely : Prop := packetGetsRow.holds Try.pinned (OpenSpec.ofChange packetGetsWrong)

/-- 'flumelaw04.PacketForm': WHATEVER THE INPUT: true; the input reads as it did. -/
def packetFormSpec : ChangeSpec := { name := "packetForm", fn := fun _ => fun
  | [d] => { results := [.lit (.bool true)], args := [d] }
  | _ => none }
def packetFormRow : OpenClaim := { program := "ytobkelpeenckeaa", sum := "cb1bf52251f44350e21748fe503d2508e93c993dab85fa40bc64ef19e6f576d5", func := "flume/flumelaw04.PacketForm", spec := "packetForm", apart := false }
def PacketFormSaid : Prop := packetFormRow.holds Try.pinned (OpenSpec.ofChange packetFormSpec)

/-- ITS FALSE NEIGHBOUR: 'it returns false'. Refute it at one input. -/
def packetFormWrong : ChangeSpec := { name := "packetForm", fn := fun _ => fun
  | [d] => { results := [.lit (.bool false)], args := [d] }
  | _ => none }
def PacketFormWrongFalsely : Prop := packetFormRow.holds Try.pinned (OpenSpec.ofChange packetFormWrong)

/-- 'flumelaw04.PacketApart': WHATEVER THE INPUT: true; the input reads as it did. -/
def packetApartSpec : ChangeSpec := { name := "packetApart", fn := fun _ => fun
  | [d1, d2] => { results := [.lit (.bool true)], args := [d1, d2] }
  | _ => none }
def packetApartRow : OpenClaim := { program := "ytobkelpeenckeaa", sum := "cb1bf52251f44350e21748fe503d2508e93c993dab85fa40bc64ef19e6f576d5", func := "flume/flumelaw04.PacketApart", spec := "packetApart", apart := false }
def PacketApartSaid : Prop := packetApartRow.holds Try.pinned (OpenSpec.ofChange packetApartSpec)

/-- ITS FALSE NEIGHBOUR: 'it returns false'. Refute it at one input. -/
def packetApartWrong : ChangeSpec := { name := "packetApart", fn := fun _ => fun
  | [d1, d2] => { results := [.lit (.bool false)], args := [d1, d2] }
  | _ => none }
def PacketApartWrongFalsely : Prop := packetApartRow.holds Try.pinned (OpenSpec.ofChange packetApartWrong)

/-- 'flumelaw04.PacketProbed': WHATEVER THE INPUT: true; the input reads as it did. -/
def packetProbedSpec : ChangeSpec := { name := "packetProbed", fn := fun _ => fun
  | [d1, d2] => { results := [.lit (.bool true)], args := [d1, d2] }
  | _ => none }
def packetProbedRow : OpenClaim := { program := "ytobkelpeenckeaa", sum := "cb1bf52251f44350e21748fe503d2508e93c993dab85fa40bc64ef19e6f576d5", func := "flume/flumelaw04.PacketProbed", spec := "packetProbed", apart := false }
def PacketProbedSaid : Prop := packetProbedRow.holds Try.pinned (OpenSpec.ofChange packetProbedSpec)

/-- ITS FALSE NEIGHBOUR: 'it returns false'. Refute it at one input. -/
def packetProbedWrong : ChangeSpec := { name := "packetProbed", fn := fun _ => fun
  | [d1, d2] => { results := [.lit (.bool false)], args := [d1, d2] }
  | _ => none }
def PacketProbedWrongFalsely : Prop := packetProbedRow.holds Try.pinned (OpenSpec.ofChange packetProbedWrong)

/-- 'flumelaw04.PacketAlone': WHATEVER THE INPUT: true; the input reads as it did. -/
def packetAloneSpec : ChangeSpec := { name := "packetAlone", fn := fun _ => fun
  | [d1, d2] => { results := [.lit (.bool true)], args := [d1, d2] }
  | _ => none }
def packetAloneRow : OpenClaim := { program := "ytobkelpeenckeaa", sum := "cb1bf52251f44350e21748fe503d2508e93c993dab85fa40bc64ef19e6f576d5", func := "flume/flumelaw04.PacketAlone", spec := "packetAlone", apart := false }
def PacketAloneSaid : Prop := packetAloneRow.holds Try.pinned (OpenSpec.ofChange packetAloneSpec)

/-- ITS FALSE NEIGHBOUR: 'it returns false'. Refute it at one input. -/
def packetAloneWrong : ChangeSpec := { name := "packetAlone", fn := fun _ => fun
  | [d1, d2] => { results := [.lit (.bool false)], args := [d1, d2] }
  | _ => none }
def PacketAloneWrongFalsely : Prop := packetAloneRow.holds Try.pinned (OpenSpec.ofChange packetAloneWrong)

/- THE SECOND FORM. 'bulk': how many values and letters a reading holds, each counted each time it is reached (what is shared counts as often as it is met; a slice's spare places count too). A statement '..UptoSaid' is the law's where the arguments, and the package variables that the reading takes, are together of bulk at most 1048576: NARROWER than '..Said'. Prove '..Said' where nothing that the law and all that it calls make is longer than what came in: it says more and counts as full. Else prove '..UptoSaid'. A law counts once. -/
mutual
def uptoBulk {H : Type} : DataW H → Nat
  | .lit (.string bytes) => bytes.length + 1
  | .lit _ => 1
  | .nil => 1
  | .ptr d => uptoBulk d + 1
  | .slice elems spare => uptoBulkAll elems + uptoBulkAll spare + 1
  | .agg parts => uptoBulkAll parts + 1
  | .iface _ d => uptoBulk d + 1
  | .map entries => uptoBulkEntries entries + 1
  | .held _ => 1
def uptoBulkAll {H : Type} : List (DataW H) → Nat
  | [] => 0
  | d :: r => uptoBulk d + uptoBulkAll r
def uptoBulkEntries {H : Type} : List (Lit × DataW H) → Nat
  | [] => 0
  | x :: r => uptoBulkEntry x + uptoBulkEntries r
def uptoBulkEntry {H : Type} : Lit × DataW H → Nat
  | (.string bytes, d) => bytes.length + uptoBulk d + 1
  | (_, d) => uptoBulk d + 1
 end
def uptoSmall : (H : Type) → List (DataW H) → Bool := fun _ ds => decide (uptoBulkAll ds ≤ 1048576)
def OpenSpec.upto (s : _root_.Go.ChangeSpec) : _root_.Go.OpenSpec := { _root_.Go.OpenSpec.ofChange s with cond := some uptoSmall }

/-- 'flumelaw04.PacketBack', WHERE WHAT IT READS IS OF BULK AT MOST 1048576: true; the input reads as it did. -/
def packetBackUptoRow : OpenClaim := { program := "ytobkelpeenckeaa", sum := "cb1bf52251f44350e21748fe503d2508e93c993dab85fa40bc64ef19e6f576d5", func := "flume/flumelaw04.PacketBack", spec := "packetBack", apart := false, narrowed := true }
def PacketBackUptoSaid : Prop := packetBackUptoRow.holds Try.pinned (OpenSpec.upto packetBackSpec)

/-- 'flumelaw04.PacketTurned', WHERE WHAT IT READS IS OF BULK AT MOST 1048576: true; the input reads as it did. -/
def packetTurnedUptoRow : OpenClaim := { program := "ytobkelpeenckeaa", sum := "cb1bf52251f44350e21748fe503d2508e93c993dab85fa40bc64ef19e6f576d5", func := "flume/flumelaw04.PacketTurned", spec := "packetTurned", apart := false, narrowed := true }
def PacketTurnedUptoSaid : Prop := packetTurnedUptoRow.holds Try.pinned (OpenSpec.upto packetTurnedSpec)

/-- 'flumelaw04.PacketTakes', WHERE WHAT IT READS IS OF BULK AT MOST 1048576: true; the input reads as it did. -/
def packetTakesUptoRow : OpenClaim := { program := "ytobkelpeenckeaa", sum := "cb1bf52251f44350e21748fe503d2508e93c993dab85fa40bc64ef19e6f576d5", func := "flume/flumelaw04.PacketTakes", spec := "packetTakes", apart := false, narrowed := true }
def PacketTakesUptoSaid : Prop := packetTakesUptoRow.holds Try.pinned (OpenSpec.upto packetTakesSpec)

/-- 'flumelaw04.PacketRefused', WHERE WHAT IT READS IS OF BULK AT MOST 1048576: true; the input reads as it did. -/
def packetRefusedUptoRow : OpenClaim := { program := "ytobkelpeenckeaa", sum := "cb1bf52251f44350e21748fe503d2508e93c993dab85fa40bc64ef19e6f576d5", func := "flume/flumelaw04.PacketRefused", spec := "packetRefused", apart := false, narrowed := true }
def PacketRefusedUptoSaid : Prop := packetRefusedUptoRow.holds Try.pinned (OpenSpec.upto packetRefusedSpec)

/-- 'flumelaw04.PacketPuts', WHERE WHAT IT READS IS OF BULK AT MOST 1048576: true; the input reads as it did. -/
def packetPutsUptoRow : OpenClaim := { program := "ytobkelpeenckeaa", sum := "cb1bf52251f44350e21748fe503d2508e93c993dab85fa40bc64ef19e6f576d5", func := "flume/flumelaw04.PacketPuts", spec := "packetPuts", apart := false, narrowed := true }
def PacketPutsUptoSaid : Prop := packetPutsUptoRow.holds Try.pinned (OpenSpec.upto packetPutsSpec)

/-- 'flumelaw04.PacketGets', WHERE WHAT IT READS IS OF BULK AT MOST 1048576: true; the input reads as it did. -/
def packetGetsUptoRow : OpenClaim := { program := "ytobkelpeenckeaa", sum := "cb1bf52251f44350e21748fe503d2508e93c993dab85fa40bc64ef19e6f576d5", func := "flume/flumelaw04.PacketGets", spec := "packetGets", apart := false, narrowed := true }
def PacketGetsUptoSaid : Prop := packetGetsUptoRow.holds Try.pinned (OpenSpec.upto packetGetsSpec)

/-- 'flumelaw04.PacketForm', WHERE WHAT IT READS IS OF BULK AT MOST 1048576: true; the input reads as it did. -/
def packetFormUptoRow : OpenClaim := { program := "ytobkelpeenckeaa", sum := "cb1bf52251f44350e21748fe503d2508e93c993dab85fa40bc64ef19e6f576d5", func := "flume/flumelaw04.PacketForm", spec := "packetForm", apart := false, narrowed := true }
def PacketFormUptoSaid : Prop := packetFormUptoRow.holds Try.pinned (OpenSpec.upto packetFormSpec)

/-- 'flumelaw04.PacketApart', WHERE WHAT IT READS IS OF BULK AT MOST 1048576: true; the input reads as it did. -/
def packetApartUptoRow : OpenClaim := { program := "ytobkelpeenckeaa", sum := "cb1bf52251f44350e21748fe503d2508e93c993dab85fa40bc64ef19e6f576d5", func := "flume/flumelaw04.PacketApart", spec := "packetApart", apart := false, narrowed := true }
def PacketApartUptoSaid : Prop := packetApartUptoRow.holds Try.pinned (OpenSpec.upto packetApartSpec)

/-- 'flumelaw04.PacketProbed', WHERE WHAT IT READS IS OF BULK AT MOST 1048576: true; the input reads as it did. -/
def packetProbedUptoRow : OpenClaim := { program := "ytobkelpeenckeaa", sum := "cb1bf52251f44350e21748fe503d2508e93c993dab85fa40bc64ef19e6f576d5", func := "flume/flumelaw04.PacketProbed", spec := "packetProbed", apart := false, narrowed := true }
def PacketProbedUptoSaid : Prop := packetProbedUptoRow.holds Try.pinned (OpenSpec.upto packetProbedSpec)

/-- 'flumelaw04.PacketAlone', WHERE WHAT IT READS IS OF BULK AT MOST 1048576: true; the input reads as it did. -/
def packetAloneUptoRow : OpenClaim := { program := "ytobkelpeenckeaa", sum := "cb1bf52251f44350e21748fe503d2508e93c993dab85fa40bc64ef19e6f576d5", func := "flume/flumelaw04.PacketAlone", spec := "packetAlone", apart := false, narrowed := true }
def PacketAloneUptoSaid : Prop := packetAloneUptoRow.holds Try.pinned (OpenSpec.upto packetAloneSpec)

end Rows
end Go.Proofs.Ytobkelpeenckeaa
