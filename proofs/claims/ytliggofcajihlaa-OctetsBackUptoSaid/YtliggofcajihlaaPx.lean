-- Written by lexprint.py, a program of this session's own that runs the kit's print with turned rows. Lean checks it.
import Derived.Test.YtliggofcajihlaaPx0
import Derived.Test.YtliggofcajihlaaPx1
import Derived.Test.YtliggofcajihlaaPx2
import Derived.Test.YtliggofcajihlaaPx3
import Derived.Test.YtliggofcajihlaaPx4
import Derived.Test.YtliggofcajihlaaPx5
import Derived.Test.YtliggofcajihlaaPx6
import Derived.Test.YtliggofcajihlaaPx7
import Derived.Test.YtliggofcajihlaaPx8
namespace Go.Proofs.Ytliggofcajihlaa.P
open Go.RowKit Go.Proofs.YtliggofcajihlaaW.PrintWords Go.Proofs.YtliggofcajihlaaW.PrintLast Go.Proofs.YtliggofcajihlaaW.PrintMore
attribute [local go_sem] max2_int min2_int max_two min_two max_three min_three max_four min_four   -- for this text's walks alone
set_option linter.unusedVariables false
set_option linter.unusedSimpArgs false

end Go.Proofs.Ytliggofcajihlaa.P
