-- Written by lexprint.py, a program of this session's own that runs the kit's print with turned rows. Lean checks it.
import Derived.Test.YthlmpioijjnmnaaPx0
import Derived.Test.YthlmpioijjnmnaaPx1
import Derived.Test.YthlmpioijjnmnaaPx2
import Derived.Test.YthlmpioijjnmnaaPx3
import Derived.Test.YthlmpioijjnmnaaPx4
import Derived.Test.YthlmpioijjnmnaaPx5
import Derived.Test.YthlmpioijjnmnaaPx6
import Derived.Test.YthlmpioijjnmnaaPx7
namespace Go.Proofs.Ythlmpioijjnmnaa.P
open Go.RowKit Go.Proofs.YthlmpioijjnmnaaW.PrintWords Go.Proofs.YthlmpioijjnmnaaW.PrintLast Go.Proofs.YthlmpioijjnmnaaW.PrintMore
attribute [local go_sem] max2_int min2_int max_two min_two
set_option linter.unusedVariables false
set_option linter.unusedSimpArgs false

end Go.Proofs.Ythlmpioijjnmnaa.P
