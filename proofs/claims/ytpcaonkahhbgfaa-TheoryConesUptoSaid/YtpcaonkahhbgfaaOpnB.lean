/- Bytes that came in, opened. -/
import Derived.Test.YtpcaonkahhbgfaaPx0
import Derived.Test.YtpcaonkahhbgfaaOpn
namespace Go.Proofs.Ytpcaonkahhbgfaa.P
open Go.RowKit Go.Proofs.YtpcaonkahhbgfaaW.PrintWords Go.Proofs.YtpcaonkahhbgfaaW.PrintLast
def WfBytes (l : List Int) : Prop := l.length ≤ 140737488351232 ∧ Bytes l
theorem opn_bytes {H : Type} {enc : TypeId × Value → H} {W : World} : Opn enc Try.prog W (Kd.slice 5 (Kd.int .u8)) 41 WfBytes :=
  (Opn.slice Try.underlying41 (by kernel_rfl) (Opn.int Try.underlying5)).imp fun l h =>
    ⟨by have := (show Try.prog.bytesOf 5 = 1 by kernel_rfl) ▸ h.1; omega, fun x hx => by
      have := h.2 x hx
      simpa [Lit.wf, IntKind.min, IntKind.max, IntKind.signed, IntKind.bits] using this⟩
end Go.Proofs.Ytpcaonkahhbgfaa.P
