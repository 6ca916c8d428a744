-- Written by lexprint.py, a program of this session's own that runs the kit's print with turned rows. Lean checks it.
import Derived.Test.YtimohodndbkchaaDoorPx0
import Derived.Test.YtimohodndbkchaaDoorPx1
import Derived.Test.YtimohodndbkchaaDoorPx2
import Derived.Test.YtimohodndbkchaaDoorPx3
import Derived.Test.YtimohodndbkchaaDoorPx4
import Derived.Test.YtimohodndbkchaaDoorPx5
import Derived.Test.YtimohodndbkchaaDoorPx6
import Derived.Test.YtimohodndbkchaaDoorPx7
import Derived.Test.YtimohodndbkchaaDoorPx8
import Derived.Test.YtimohodndbkchaaDoorPx9
namespace Go.Proofs.YtimohodndbkchaaDoor.P
open Go.RowKit Go.Proofs.YtimohodndbkchaaDoorW.PrintWords Go.Proofs.YtimohodndbkchaaDoorW.PrintLast Go.Proofs.YtimohodndbkchaaDoorW.PrintMore
attribute [local go_sem] max2_int min2_int max_two min_two max_three min_three max_four min_four   -- for this text's walks alone
set_option linter.unusedVariables false
set_option linter.unusedSimpArgs false

end Go.Proofs.YtimohodndbkchaaDoor.P
