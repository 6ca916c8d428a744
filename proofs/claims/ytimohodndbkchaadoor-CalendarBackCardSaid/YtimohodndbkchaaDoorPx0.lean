-- Written by lexprint.py, a program of this session's own that runs the kit's print with turned rows. Lean checks it.
import Derived.Test.YtimohodndbkchaaDoorProg
import Derived.Below
import Derived.Deep.Draws
import Derived.Deep.AppendLies
import Derived.Maps.AppendAt
import Derived.OwnWalk
import Derived.Laws.BytesArg
import Derived.Laws.MakeOwn
import Derived.Laws.OwnMore
import Derived.Deep.OwnRows
import Derived.Tactics
import Derived.Lib.ConvBytes
import Derived.Laws.Slices
import Derived.WalkKit
import Derived.KernelRfl
import Derived.RowKit3
import Derived.Deep.LoopGhost
import Derived.Deep.QuietTactic
import Derived.BigQuiet
import Derived.WideLaws
import Derived.Deep.DeepCutAuto
import Derived.Deep.CutBlock
import Derived.Deep.RegionHeld3
import Derived.Laws.Rows
import Derived.Lib.AppendStr
import Derived.ArgAppend
import Derived.Laws.IdiomCopy
import Derived.OrdersHeld
import Derived.Laws.BitsLemmas
import Derived.RowKit
import Derived.Test.YtimohodndbkchaaDoorMine
import Derived.Test.YtimohodndbkchaaDoorNum
import Derived.Test.YtimohodndbkchaaDoorHex
import Derived.Test.YtimohodndbkchaaDoorCal
import Derived.Test.YtimohodndbkchaaDoorShelf
import Derived.Test.YtimohodndbkchaaDoorTab
import Derived.Test.YtimohodndbkchaaDoorWWords
import Derived.Test.YtimohodndbkchaaDoorWLast
import Derived.Test.YtimohodndbkchaaDoorWTab
import Derived.Test.YtimohodndbkchaaDoorWFour
import Derived.Test.YtimohodndbkchaaDoorWQPut
import Derived.Test.YtimohodndbkchaaDoorWApart
import Derived.Test.YtimohodndbkchaaDoorWArr
import Derived.Test.YtimohodndbkchaaDoorWZeros
import Derived.Test.YtimohodndbkchaaDoorWFoot
import Derived.Test.YtimohodndbkchaaDoorWKept
import Derived.Test.YtimohodndbkchaaDoorWShare
import Derived.Test.YtimohodndbkchaaDoorWN
import Derived.Test.YtimohodndbkchaaDoorWFootNe
import Derived.Test.YtimohodndbkchaaDoorWAt
import Derived.Test.YtimohodndbkchaaDoorWEqStruct
import Derived.Test.YtimohodndbkchaaDoorWRepsOne
import Derived.Test.YtimohodndbkchaaDoorWInv
import Derived.Test.YtimohodndbkchaaDoorWInvWords
import Derived.Test.YtimohodndbkchaaDoorWGuard
import Derived.Test.YtimohodndbkchaaDoorWNEv
import Derived.Test.YtimohodndbkchaaDoorWMore
namespace Go.Proofs.YtimohodndbkchaaDoor.P
open Go.RowKit Go.Proofs.YtimohodndbkchaaDoorW.PrintWords Go.Proofs.YtimohodndbkchaaDoorW.PrintLast Go.Proofs.YtimohodndbkchaaDoorW.PrintMore
attribute [local go_sem] max2_int min2_int max_two min_two max_three min_three max_four min_four   -- for this text's walks alone
set_option linter.unusedVariables false
set_option linter.unusedSimpArgs false



def errW : Option Int → Value
  | none => .nilIface
  | some c => .iface 0 (.int .i64 c)
theorem errW_none : errW none = .nilIface := rfl
theorem errW_some (c : Int) : errW (some c) = .iface 0 (.int .i64 c) := rfl

theorem info5 : (Tryd.prog.info? 5).map (fun i => (i.zero, i.size, i.bytes)) = some (some (.int .u8 0), 1, 1) := by kernel_rfl
-- the values' own types

end Go.Proofs.YtimohodndbkchaaDoor.P
