/- Closed facts about this translation: a place of the row of the two families. -/
import Derived.Test.YtmegbllhidkmoaaDoorFacts
namespace Go.Proofs.YtmegbllhidkmoaaDoor.Tx
open Go.RowKit
def arr46 (j : Int) : Int := if j = 0 then 4 else 6
theorem idx49 (j : Int) (h0 : 0 ≤ j) (h1 : j < 2) : ∀ w : World, (Instr.index 49 (.agg #[.int .i64 4, .int .i64 6]) (.int .i64 j)).run Tryd.prog w = .ok (.int .i64 (arr46 j)) w := by
  have h : j = 0 ∨ j = 1 := by omega
  rcases h with rfl | rfl
  · intro w; kernel_rfl
  · intro w; kernel_rfl
end Go.Proofs.YtmegbllhidkmoaaDoor.Tx
