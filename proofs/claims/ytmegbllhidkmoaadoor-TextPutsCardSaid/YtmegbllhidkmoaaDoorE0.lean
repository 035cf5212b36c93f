-- BY wip/tools/gprint.py, over the kit's printer: machine-made text of this session
import Derived.Test.YtmegbllhidkmoaaDoorProg
import Derived.Below
import Derived.Deep.Draws
import Derived.Deep.AppendLies
import Derived.Maps.AppendAt
import Derived.OwnWalk
import Derived.Laws.BytesArg
import Derived.Laws.MakeOwn
import Derived.Laws.OwnMore
import Derived.Deep.OwnRows
import Derived.Tactics
import Derived.Lib.ConvBytes
import Derived.Laws.Slices
import Derived.WalkKit
import Derived.KernelRfl
import Derived.RowKit3
import Derived.Deep.LoopGhost
import Derived.Deep.QuietTactic
import Derived.BigQuiet
import Derived.WideLaws
import Derived.Deep.DeepCutAuto
import Derived.Deep.CutBlock
import Derived.Deep.RegionHeld3
import Derived.Laws.Rows
import Derived.Lib.AppendStr
import Derived.ArgAppend
import Derived.Laws.IdiomCopy
import Derived.OrdersHeld
import Derived.Laws.BitsLemmas
import Derived.RowKit
import Derived.Test.YtmegbllhidkmoaaDoorGivenI
import Derived.Test.YtmegbllhidkmoaaDoorWWords
import Derived.Test.YtmegbllhidkmoaaDoorWLast
import Derived.Test.YtmegbllhidkmoaaDoorWTab
import Derived.Test.YtmegbllhidkmoaaDoorWFour
import Derived.Test.YtmegbllhidkmoaaDoorWQPut
import Derived.Test.YtmegbllhidkmoaaDoorWApart
import Derived.Test.YtmegbllhidkmoaaDoorWArr
import Derived.Test.YtmegbllhidkmoaaDoorWZeros
import Derived.Test.YtmegbllhidkmoaaDoorWFoot
import Derived.Test.YtmegbllhidkmoaaDoorWKept
import Derived.Test.YtmegbllhidkmoaaDoorWShare
import Derived.Test.YtmegbllhidkmoaaDoorWN
import Derived.Test.YtmegbllhidkmoaaDoorWFootNe
import Derived.Test.YtmegbllhidkmoaaDoorWAt
import Derived.Test.YtmegbllhidkmoaaDoorWEqStruct
import Derived.Test.YtmegbllhidkmoaaDoorWRepsOne
import Derived.Test.YtmegbllhidkmoaaDoorWInv
import Derived.Test.YtmegbllhidkmoaaDoorWInvWords
import Derived.Test.YtmegbllhidkmoaaDoorWGuard
import Derived.Test.YtmegbllhidkmoaaDoorWNEv
import Derived.Test.YtmegbllhidkmoaaDoorWMore
namespace Go.Proofs.YtmegbllhidkmoaaDoor.Tx
open Go.RowKit Go.Proofs.YtmegbllhidkmoaaDoorW.PrintWords Go.Proofs.YtmegbllhidkmoaaDoorW.PrintLast Go.Proofs.YtmegbllhidkmoaaDoorW.PrintMore
attribute [local go_sem] max2_int min2_int max_two min_two max_three min_three max_four min_four   -- for this text's walks alone
attribute [local go_sem] fld28_0 fld28_1 fld33_0 fld33_1
set_option linter.unusedVariables false
set_option linter.unusedSimpArgs false



def errW : Option Int → Value
  | none => .nilIface
  | some c => .iface 0 (.int .i64 c)
theorem errW_none : errW none = .nilIface := rfl
theorem errW_some (c : Int) : errW (some c) = .iface 0 (.int .i64 c) := rfl

theorem info9 : (Tryd.prog.info? 9).map (fun i => (i.zero, i.size, i.bytes)) = some (some (.string ⟨#[]⟩), 1, 16) := by kernel_rfl
theorem info26 : (Tryd.prog.info? 26).map (fun i => (i.zero, i.size, i.bytes)) = some (some (.int .u64 0), 1, 8) := by kernel_rfl
-- the values' own types

end Go.Proofs.YtmegbllhidkmoaaDoor.Tx
