-- Machine-written words of the kit's printer, trimmed by wip/tools/trimwords.py to what this claim names.
import Derived.Test.YtmegbllhidkmoaaDoorWInv
import Derived.Test.YtmegbllhidkmoaaDoorWFootNe
namespace Go.Proofs.YtmegbllhidkmoaaDoorW.PrintWords
open Go.RowKit
end Go.Proofs.YtmegbllhidkmoaaDoorW.PrintWords
namespace Go.Proofs.YtmegbllhidkmoaaDoorW.PrintLast
section
variable {ops : Array Oper} {a : Act} {o og : Oper} {g : Nat} {t : Tmp} {u : Bool}
end
end Go.Proofs.YtmegbllhidkmoaaDoorW.PrintLast
