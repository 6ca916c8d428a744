-- Written by lexprint.py, a program of this session's own that runs the kit's print with turned rows. Lean checks it.
import Derived.Test.YtpcaonkahhbgfaaPx0
import Derived.Test.YtpcaonkahhbgfaaPx1
import Derived.Test.YtpcaonkahhbgfaaPx2
import Derived.Test.YtpcaonkahhbgfaaPx3
import Derived.Test.YtpcaonkahhbgfaaPx4
import Derived.Test.YtpcaonkahhbgfaaPx5
import Derived.Test.YtpcaonkahhbgfaaPx6
import Derived.Test.YtpcaonkahhbgfaaPx7
import Derived.Test.YtpcaonkahhbgfaaPx8
import Derived.Test.YtpcaonkahhbgfaaPx9
import Derived.Test.YtpcaonkahhbgfaaPx10
import Derived.Test.YtpcaonkahhbgfaaPx11
import Derived.Test.YtpcaonkahhbgfaaPx12
import Derived.Test.YtpcaonkahhbgfaaPx13
import Derived.Test.YtpcaonkahhbgfaaPx14
namespace Go.Proofs.Ytpcaonkahhbgfaa.P
open Go.RowKit Go.Proofs.YtpcaonkahhbgfaaW.PrintWords Go.Proofs.YtpcaonkahhbgfaaW.PrintLast Go.Proofs.YtpcaonkahhbgfaaW.PrintMore
attribute [local go_sem] max2_int min2_int max_two min_two
set_option linter.unusedVariables false
set_option linter.unusedSimpArgs false

end Go.Proofs.Ytpcaonkahhbgfaa.P
