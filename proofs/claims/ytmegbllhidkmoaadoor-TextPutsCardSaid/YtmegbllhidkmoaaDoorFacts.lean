/- Closed facts about this translation: a field read out of a struct's value. -/
import Derived.Test.YtmegbllhidkmoaaDoorProg
import Derived.KernelRfl
import Derived.WalkKit
namespace Go.Proofs.YtmegbllhidkmoaaDoor.Tx
open Go.RowKit
theorem fld28_0 (a b : Value) (w : World) : (Instr.field 28 (.agg #[a, b]) 0).run Tryd.prog w = .ok a w := by kernel_rfl
theorem fld28_1 (a b : Value) (w : World) : (Instr.field 28 (.agg #[a, b]) 1).run Tryd.prog w = .ok b w := by kernel_rfl
theorem fld33_0 (a b c : Value) (w : World) : (Instr.field 33 (.agg #[a, b, c]) 0).run Tryd.prog w = .ok (.agg #[a, b]) w := by kernel_rfl
theorem fld33_1 (a b c : Value) (w : World) : (Instr.field 33 (.agg #[a, b, c]) 1).run Tryd.prog w = .ok c w := by kernel_rfl
end Go.Proofs.YtmegbllhidkmoaaDoor.Tx
