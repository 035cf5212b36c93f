-- Machine-written words of the kit's printer, trimmed by wip/tools/trimwords.py to what this claim names.
import Derived.Test.YtmegbllhidkmoaaDoorWTab
/-! ### 56. Four, five, six operations that may come up next, in any order -/
namespace Go.Proofs.YtmegbllhidkmoaaDoorW.PrintLast
section
variable {P : Program} {ops : Array Oper} {Q : Exit → Act → World → Prop} {md : Region.Mode} {S : World → Prop} {ds : List Nat} {T : Bool × List (List Nat × List Nat)}
end
end Go.Proofs.YtmegbllhidkmoaaDoorW.PrintLast
