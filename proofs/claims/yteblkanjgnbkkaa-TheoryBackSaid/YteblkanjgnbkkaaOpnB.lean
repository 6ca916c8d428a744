/- Bytes that came in, opened. -/
import Derived.Test.YteblkanjgnbkkaaPx0
import Derived.Test.YteblkanjgnbkkaaOpn
namespace Go.Proofs.Yteblkanjgnbkkaa.P
open Go.RowKit Go.Proofs.YteblkanjgnbkkaaW.PrintWords Go.Proofs.YteblkanjgnbkkaaW.PrintLast
def WfBytes (l : List Int) : Prop := l.length ≤ 140737488351232 ∧ Bytes l
theorem opn_bytes {H : Type} {enc : TypeId × Value → H} {W : World} : Opn enc Try.prog W (Kd.slice 5 (Kd.int .u8)) 26 WfBytes :=
  (Opn.slice Try.underlying26 (by kernel_rfl) (Opn.int Try.underlying5)).imp fun l h =>
    ⟨by have := (show Try.prog.bytesOf 5 = 1 by kernel_rfl) ▸ h.1; omega, fun x hx => by
      have := h.2 x hx
      simpa [Lit.wf, IntKind.min, IntKind.max, IntKind.signed, IntKind.bits] using this⟩
end Go.Proofs.Yteblkanjgnbkkaa.P
