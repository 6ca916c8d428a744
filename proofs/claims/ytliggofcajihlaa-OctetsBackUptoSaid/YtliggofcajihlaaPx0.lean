-- Written by lexprint.py, a program of this session's own that runs the kit's print with turned rows. Lean checks it.
import Derived.Test.YtliggofcajihlaaProg
import Derived.Below
import Derived.Deep.Draws
import Derived.Deep.AppendLies
import Derived.Maps.AppendAt
import Derived.OwnWalk
import Derived.Laws.BytesArg
import Derived.Laws.MakeOwn
import Derived.Laws.OwnMore
import Derived.Deep.OwnRows
import Derived.Tactics
import Derived.Lib.ConvBytes
import Derived.Laws.Slices
import Derived.WalkKit
import Derived.KernelRfl
import Derived.RowKit3
import Derived.Deep.LoopGhost
import Derived.Deep.QuietTactic
import Derived.BigQuiet
import Derived.WideLaws
import Derived.Deep.DeepCutAuto
import Derived.Deep.CutBlock
import Derived.Deep.RegionHeld3
import Derived.Laws.Rows
import Derived.Lib.AppendStr
import Derived.ArgAppend
import Derived.Laws.IdiomCopy
import Derived.OrdersHeld
import Derived.Laws.BitsLemmas
import Derived.RowKit
import Derived.Test.YtliggofcajihlaaMine
import Derived.Test.YtliggofcajihlaaCrc
import Derived.Test.YtliggofcajihlaaNum
import Derived.Test.YtliggofcajihlaaHex
import Derived.Test.YtliggofcajihlaaIter
import Derived.Test.YtliggofcajihlaaWWords
import Derived.Test.YtliggofcajihlaaWLast
import Derived.Test.YtliggofcajihlaaWTab
import Derived.Test.YtliggofcajihlaaWFour
import Derived.Test.YtliggofcajihlaaWQPut
import Derived.Test.YtliggofcajihlaaWApart
import Derived.Test.YtliggofcajihlaaWArr
import Derived.Test.YtliggofcajihlaaWZeros
import Derived.Test.YtliggofcajihlaaWFoot
import Derived.Test.YtliggofcajihlaaWKept
import Derived.Test.YtliggofcajihlaaWShare
import Derived.Test.YtliggofcajihlaaWN
import Derived.Test.YtliggofcajihlaaWFootNe
import Derived.Test.YtliggofcajihlaaWAt
import Derived.Test.YtliggofcajihlaaWEqStruct
import Derived.Test.YtliggofcajihlaaWRepsOne
import Derived.Test.YtliggofcajihlaaWInv
import Derived.Test.YtliggofcajihlaaWInvWords
import Derived.Test.YtliggofcajihlaaWGuard
import Derived.Test.YtliggofcajihlaaWNEv
import Derived.Test.YtliggofcajihlaaWMore
namespace Go.Proofs.Ytliggofcajihlaa.P
open Go.RowKit Go.Proofs.YtliggofcajihlaaW.PrintWords Go.Proofs.YtliggofcajihlaaW.PrintLast Go.Proofs.YtliggofcajihlaaW.PrintMore
attribute [local go_sem] max2_int min2_int max_two min_two max_three min_three max_four min_four   -- for this text's walks alone
set_option linter.unusedVariables false
set_option linter.unusedSimpArgs false



def errW : Option Int → Value
  | none => .nilIface
  | some c => .iface 0 (.int .i64 c)
theorem errW_none : errW none = .nilIface := rfl
theorem errW_some (c : Int) : errW (some c) = .iface 0 (.int .i64 c) := rfl

theorem info5 : (Try.prog.info? 5).map (fun i => (i.zero, i.size, i.bytes)) = some (some (.int .u8 0), 1, 1) := by kernel_rfl
-- the values' own types

end Go.Proofs.Ytliggofcajihlaa.P
