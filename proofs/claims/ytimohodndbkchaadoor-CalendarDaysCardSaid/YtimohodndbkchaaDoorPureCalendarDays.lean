/- Days, months and parts: the program's answers are the document's. -/
import Derived.Test.YtimohodndbkchaaDoorCalR
namespace Go.Proofs.YtimohodndbkchaaDoor.Pure
open Go.RowKit Go.Proofs.YtimohodndbkchaaDoor.P Go.Proofs.YtimohodndbkchaaDoorW.PrintWords Go.Proofs.YtimohodndbkchaaDoorW.PrintLast

theorem CalendarDays : lexpriorlaw03_CalendarDays.Pure := by
  intro a0 a1 a2 a3 _ _ _ _
  refine ⟨30, ?_⟩
  have h1 : lexpriorref03_Of.f 30 a0 a1 a2 = _ := rOf_f 16 a0 a1 a2
  have h2 : lexpriorref03_Parts.f 30 a3 = _ := rParts_f 0 a3
  have h3 : lexpriorlaw03_alive.f 30 = some true := alive_f 20
  unfold lexpriorlaw03_CalendarDays.f
  rw [Of_f, h1, Days_f, rDays_f, Parts_f, h2, h3]
  simp [lexpriorlaw03_num.f]
end Go.Proofs.YtimohodndbkchaaDoor.Pure
