/- strconv's table of powers lies in the world. -/
import Derived.Test.YtimohodndbkchaaDoorProg
import Derived.Below
import Derived.Lib.AppendIntMem
import Derived.Lib.ItoaMem
namespace Go.Proofs.YtimohodndbkchaaDoor.P
open Go.RowKit
def TabT (w : World) : Prop := Lib.TabIs Tryd.prog w "internal/strconv.uint64pow10" .u64 Lib.pow10Tab
theorem itoa_small_grow (w : World) (k : Nat) (os : Array Obj) : Below w.heap.size w (Go.Sort.grow (w.drewN k) os) := Lib.below_grow w.heap.size w (Nat.le_refl _) k os
theorem tabT_on {w w' : World} (h : TabT w) (hb : Below w.heap.size w w') : TabT w' := Lib.tabBelow_of_tabIs h w' hb
end Go.Proofs.YtimohodndbkchaaDoor.P
