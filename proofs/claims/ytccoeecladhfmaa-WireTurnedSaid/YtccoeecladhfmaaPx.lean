-- Written by lexprint.py, a program of this session's own that runs the kit's print with turned rows. Lean checks it.
import Derived.Test.YtccoeecladhfmaaPx0
import Derived.Test.YtccoeecladhfmaaPx1
import Derived.Test.YtccoeecladhfmaaPx2
import Derived.Test.YtccoeecladhfmaaPx3
import Derived.Test.YtccoeecladhfmaaPx4
import Derived.Test.YtccoeecladhfmaaPx5
import Derived.Test.YtccoeecladhfmaaPx6
import Derived.Test.YtccoeecladhfmaaPx7
import Derived.Test.YtccoeecladhfmaaPx8
import Derived.Test.YtccoeecladhfmaaPx9
import Derived.Test.YtccoeecladhfmaaPx10
import Derived.Test.YtccoeecladhfmaaPx11
import Derived.Test.YtccoeecladhfmaaPx12
namespace Go.Proofs.Ytccoeecladhfmaa.P
open Go.RowKit Go.Proofs.YtccoeecladhfmaaW.PrintWords Go.Proofs.YtccoeecladhfmaaW.PrintLast Go.Proofs.YtccoeecladhfmaaW.PrintMore
attribute [local go_sem] max2_int min2_int max_two min_two max_three min_three max_four min_four   -- for this text's walks alone
set_option linter.unusedVariables false
set_option linter.unusedSimpArgs false

end Go.Proofs.Ytccoeecladhfmaa.P
