-- BY wip/tools/gprint.py, over the kit's printer: machine-made text of this session
import Derived.Test.YtmegbllhidkmoaaDoorE0
import Derived.Test.YtmegbllhidkmoaaDoorE1
import Derived.Test.YtmegbllhidkmoaaDoorE2
import Derived.Test.YtmegbllhidkmoaaDoorE3
import Derived.Test.YtmegbllhidkmoaaDoorE4
import Derived.Test.YtmegbllhidkmoaaDoorE5
namespace Go.Proofs.YtmegbllhidkmoaaDoor.Tx
open Go.RowKit Go.Proofs.YtmegbllhidkmoaaDoorW.PrintWords Go.Proofs.YtmegbllhidkmoaaDoorW.PrintLast Go.Proofs.YtmegbllhidkmoaaDoorW.PrintMore
attribute [local go_sem] max2_int min2_int max_two min_two max_three min_three max_four min_four   -- for this text's walks alone
attribute [local go_sem] fld28_0 fld28_1 fld33_0 fld33_1
set_option linter.unusedVariables false
set_option linter.unusedSimpArgs false

end Go.Proofs.YtmegbllhidkmoaaDoor.Tx
