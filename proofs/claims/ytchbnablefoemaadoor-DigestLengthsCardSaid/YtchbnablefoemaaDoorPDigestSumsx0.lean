-- PRINTED BY print.sh 35421559b90ae4d0a3588c463048766b98c2df88dd9212a6774a882060cdf62d: not written by this session
import Derived.Test.YtchbnablefoemaaDoorProg
import Derived.Below
import Derived.Deep.Draws
import Derived.Deep.AppendLies
import Derived.Maps.AppendAt
import Derived.OwnWalk
import Derived.Laws.BytesArg
import Derived.Laws.MakeOwn
import Derived.Laws.OwnMore
import Derived.Deep.OwnRows
import Derived.Tactics
import Derived.Lib.ConvBytes
import Derived.Laws.Slices
import Derived.WalkKit
import Derived.KernelRfl
import Derived.RowKit3
import Derived.Deep.LoopGhost
import Derived.Deep.QuietTactic
import Derived.BigQuiet
import Derived.WideLaws
import Derived.Deep.DeepCutAuto
import Derived.Deep.CutBlock
import Derived.Deep.RegionHeld3
import Derived.Laws.Rows
import Derived.Lib.AppendStr
import Derived.ArgAppend
import Derived.Laws.IdiomCopy
import Derived.OrdersHeld
import Derived.Laws.BitsLemmas
import Derived.RowKit
import Derived.Test.YtchbnablefoemaaDoorWWords
import Derived.Test.YtchbnablefoemaaDoorWLast
import Derived.Test.YtchbnablefoemaaDoorWTab
import Derived.Test.YtchbnablefoemaaDoorWFour
import Derived.Test.YtchbnablefoemaaDoorWQPut
import Derived.Test.YtchbnablefoemaaDoorWApart
import Derived.Test.YtchbnablefoemaaDoorWArr
import Derived.Test.YtchbnablefoemaaDoorWZeros
import Derived.Test.YtchbnablefoemaaDoorWFoot
import Derived.Test.YtchbnablefoemaaDoorWKept
import Derived.Test.YtchbnablefoemaaDoorWShare
import Derived.Test.YtchbnablefoemaaDoorWN
import Derived.Test.YtchbnablefoemaaDoorWFootNe
import Derived.Test.YtchbnablefoemaaDoorWAt
import Derived.Test.YtchbnablefoemaaDoorWEqStruct
import Derived.Test.YtchbnablefoemaaDoorWRepsOne
import Derived.Test.YtchbnablefoemaaDoorWInv
import Derived.Test.YtchbnablefoemaaDoorWInvWords
import Derived.Test.YtchbnablefoemaaDoorWGuard
import Derived.Test.YtchbnablefoemaaDoorWNEv
import Derived.Test.YtchbnablefoemaaDoorWMore
namespace Go.Proofs.YtchbnablefoemaaDoor.PDigestSums
open Go.RowKit Go.Proofs.YtchbnablefoemaaDoorW.PrintWords Go.Proofs.YtchbnablefoemaaDoorW.PrintLast Go.Proofs.YtchbnablefoemaaDoorW.PrintMore
attribute [local go_sem] max2_int min2_int max_two min_two max_three min_three max_four min_four   -- for this text's walks alone
set_option linter.unusedVariables false
set_option linter.unusedSimpArgs false



def errW : Option Int → Value
  | none => .nilIface
  | some c => .iface 0 (.int .i64 c)
theorem errW_none : errW none = .nilIface := rfl
theorem errW_some (c : Int) : errW (some c) = .iface 0 (.int .i64 c) := rfl

theorem info3 : (Tryd.prog.info? 3).map (fun i => (i.zero, i.size, i.bytes)) = some (some (.int .i64 0), 1, 8) := by kernel_rfl
theorem info25 : (Tryd.prog.info? 25).map (fun i => (i.zero, i.size, i.bytes)) = some (some (.int .u32 0), 1, 4) := by kernel_rfl
-- the values' own types

end Go.Proofs.YtchbnablefoemaaDoor.PDigestSums
