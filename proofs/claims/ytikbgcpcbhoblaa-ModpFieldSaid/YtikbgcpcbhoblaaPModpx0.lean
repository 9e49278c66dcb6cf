/- Each Go function named below, as a plain Lean function, with a proof that the Go code computes just that; conditions: those that each theorem states. Written by a program of this session (wip/xprint, over the print of the kit). -/
import Derived.Test.YtikbgcpcbhoblaaProg
import Derived.WalkMore
import Derived.Below
import Derived.Deep.Draws
import Derived.Deep.AppendLies
import Derived.Maps.AppendAt
import Derived.OwnWalk
import Derived.Laws.BytesArg
import Derived.Laws.MakeOwn
import Derived.Laws.OwnMore
import Derived.Deep.OwnRows
import Derived.Tactics
import Derived.Lib.ConvBytes
import Derived.Laws.Slices
import Derived.WalkKit
import Derived.KernelRfl
import Derived.RowKit3
import Derived.Deep.LoopGhost
import Derived.Deep.QuietTactic
import Derived.BigQuiet
import Derived.WideLaws
import Derived.Deep.DeepCutAuto
import Derived.Deep.CutBlock
import Derived.Deep.RegionHeld3
import Derived.Laws.Rows
import Derived.Lib.AppendStr
import Derived.ArgAppend
import Derived.Laws.IdiomCopy
import Derived.OrdersHeld
import Derived.Laws.BitsLemmas
import Derived.RowKit
import Derived.Test.YtikbgcpcbhoblaaWWords
import Derived.Test.YtikbgcpcbhoblaaWLast
import Derived.Test.YtikbgcpcbhoblaaWTab
import Derived.Test.YtikbgcpcbhoblaaWFour
import Derived.Test.YtikbgcpcbhoblaaWQPut
import Derived.Test.YtikbgcpcbhoblaaWApart
import Derived.Test.YtikbgcpcbhoblaaWArr
import Derived.Test.YtikbgcpcbhoblaaWZeros
import Derived.Test.YtikbgcpcbhoblaaWFoot
import Derived.Test.YtikbgcpcbhoblaaWKept
import Derived.Test.YtikbgcpcbhoblaaWShare
import Derived.Test.YtikbgcpcbhoblaaWN
import Derived.Test.YtikbgcpcbhoblaaWFootNe
import Derived.Test.YtikbgcpcbhoblaaWAt
import Derived.Test.YtikbgcpcbhoblaaWEqStruct
import Derived.Test.YtikbgcpcbhoblaaWRepsOne
import Derived.Test.YtikbgcpcbhoblaaWInv
import Derived.Test.YtikbgcpcbhoblaaWInvWords
import Derived.Test.YtikbgcpcbhoblaaWGuard
import Derived.Test.YtikbgcpcbhoblaaWNEv
import Derived.Test.YtikbgcpcbhoblaaWMore
namespace Go.Proofs.Ytikbgcpcbhoblaa.PModp
open Go.RowKit Go.Proofs.YtikbgcpcbhoblaaW.PrintWords Go.Proofs.YtikbgcpcbhoblaaW.PrintLast Go.Proofs.YtikbgcpcbhoblaaW.PrintMore
attribute [local go_sem] max2_int min2_int max_two min_two max_three min_three max_four min_four   -- for this text's walks alone
set_option linter.unusedVariables false
set_option linter.unusedSimpArgs false



def errW : Option Int → Value
  | none => .nilIface
  | some c => .iface 0 (.int .i64 c)
theorem errW_none : errW none = .nilIface := rfl
theorem errW_some (c : Int) : errW (some c) = .iface 0 (.int .i64 c) := rfl

theorem info3 : (Try.prog.info? 3).map (fun i => (i.zero, i.size, i.bytes)) = some (some (.int .i64 0), 1, 8) := by kernel_rfl
-- the values' own types

end Go.Proofs.Ytikbgcpcbhoblaa.PModp
