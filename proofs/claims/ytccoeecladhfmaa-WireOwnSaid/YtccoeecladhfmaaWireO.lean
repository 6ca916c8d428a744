/- Steps that came in, opened. -/
import Derived.Test.YtccoeecladhfmaaPx0
import Derived.Test.YtccoeecladhfmaaOpn
namespace Go.Proofs.Ytccoeecladhfmaa.P
open Go.RowKit Go.Proofs.YtccoeecladhfmaaW.PrintWords Go.Proofs.YtccoeecladhfmaaW.PrintLast
def I64 (x : Int) : Prop := -9223372036854775808 ≤ x ∧ x ≤ 9223372036854775807
theorem i64_of {x : Int} (h : (Lit.int .i64 x).wf = true) : I64 x := by
  simp [Lit.wf, IntKind.min, IntKind.max, IntKind.signed, IntKind.bits] at h
  unfold I64
  omega
def WfChoice (c : S54) : Prop := I64 c.f0 ∧ I64 c.f1
def WfStep (s : S52) : Prop := I64 s.f0 ∧ I64 s.f1 ∧ I64 s.f2 ∧ I64 s.f3 ∧ s.f4.length * 16 ≤ 140737488351232 ∧ ∀ c ∈ s.f4, WfChoice c
def WfSteps (l : List S52) : Prop := l.length * 56 ≤ 140737488351232 ∧ ∀ s ∈ l, WfStep s
section
variable {H : Type} {enc : TypeId × Value → H} {W : World}
theorem opn_int : Opn enc Try.prog W (Kd.int .i64) 3 I64 := (Opn.int Try.underlying3).imp fun _ h => i64_of h
theorem opn_tag : Opn enc Try.prog W (Kd.int .i64) 48 I64 := (Opn.int Try.underlying48).imp fun _ h => i64_of h
theorem opn_how : Opn enc Try.prog W (Kd.int .i64) 49 I64 := (Opn.int Try.underlying49).imp fun _ h => i64_of h
theorem opn_choice : Opn enc Try.prog W k54 54 WfChoice :=
  (Opn.iso (Opn.struct Try.underlying54 (by kernel_rfl) (OpnF.cons rfl (by kernel_rfl) opn_int (OpnF.one rfl (by kernel_rfl) opn_int))) (fun x : S54 => (x.f0, x.f1)) (fun p => ⟨p.1, p.2⟩) (fun _ => rfl)).imp fun _ h => h
theorem opn_choices : Opn enc Try.prog W (Kd.slice 54 k54) 50 (fun l => l.length * 16 ≤ 140737488351232 ∧ ∀ c ∈ l, WfChoice c) :=
  (Opn.slice Try.underlying50 (by kernel_rfl) opn_choice).imp fun l h => ⟨(show Try.prog.bytesOf 54 = 16 by kernel_rfl) ▸ h.1, h.2⟩
theorem opn_step : Opn enc Try.prog W k52 52 WfStep :=
  (Opn.iso (Opn.struct Try.underlying52 (by kernel_rfl) (OpnF.cons rfl (by kernel_rfl) opn_tag (OpnF.cons rfl (by kernel_rfl) opn_int (OpnF.cons rfl (by kernel_rfl) opn_how (OpnF.cons rfl (by kernel_rfl) opn_int (OpnF.one rfl (by kernel_rfl) opn_choices))))))
    (fun x : S52 => (x.f0, x.f1, x.f2, x.f3, x.f4)) (fun p => ⟨p.1, p.2.1, p.2.2.1, p.2.2.2.1, p.2.2.2.2⟩) (fun _ => rfl)).imp fun _ h => h
theorem opn_steps : Opn enc Try.prog W (Kd.slice 52 k52) 22 WfSteps :=
  (Opn.slice Try.underlying22 (by kernel_rfl) opn_step).imp fun l h => ⟨(show Try.prog.bytesOf 52 = 56 by kernel_rfl) ▸ h.1, h.2⟩
end
end Go.Proofs.Ytccoeecladhfmaa.P
