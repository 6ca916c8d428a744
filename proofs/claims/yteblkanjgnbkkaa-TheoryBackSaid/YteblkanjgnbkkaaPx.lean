-- Written by lexprint.py, a program of this session's own that runs the kit's print with turned rows. Lean checks it.
import Derived.Test.YteblkanjgnbkkaaPx0
import Derived.Test.YteblkanjgnbkkaaPx1
import Derived.Test.YteblkanjgnbkkaaPx2
import Derived.Test.YteblkanjgnbkkaaPx3
import Derived.Test.YteblkanjgnbkkaaPx4
import Derived.Test.YteblkanjgnbkkaaPx5
import Derived.Test.YteblkanjgnbkkaaPx6
import Derived.Test.YteblkanjgnbkkaaPx7
import Derived.Test.YteblkanjgnbkkaaPx8
import Derived.Test.YteblkanjgnbkkaaPx9
import Derived.Test.YteblkanjgnbkkaaPx10
import Derived.Test.YteblkanjgnbkkaaPx11
import Derived.Test.YteblkanjgnbkkaaPx12
namespace Go.Proofs.Yteblkanjgnbkkaa.P
open Go.RowKit Go.Proofs.YteblkanjgnbkkaaW.PrintWords Go.Proofs.YteblkanjgnbkkaaW.PrintLast Go.Proofs.YteblkanjgnbkkaaW.PrintMore
attribute [local go_sem] max2_int min2_int max_two min_two
set_option linter.unusedVariables false
set_option linter.unusedSimpArgs false

end Go.Proofs.Yteblkanjgnbkkaa.P
