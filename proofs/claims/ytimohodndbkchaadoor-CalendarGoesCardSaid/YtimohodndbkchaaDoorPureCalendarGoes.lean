/- Weekdays, months on and ages: the program's answers are the document's. -/
import Derived.Test.YtimohodndbkchaaDoorCalR
namespace Go.Proofs.YtimohodndbkchaaDoor.Pure
open Go.RowKit Go.Proofs.YtimohodndbkchaaDoor.P Go.Proofs.YtimohodndbkchaaDoorW.PrintWords Go.Proofs.YtimohodndbkchaaDoorW.PrintLast

theorem CalendarGoes : lexpriorlaw03_CalendarGoes.Pure := by
  intro a0 a1 a2 _ _ w2
  have b2 : -9223372036854775808 ≤ a2 ∧ a2 ≤ 9223372036854775807 := by simpa [Lit.wf, IntKind.min, IntKind.max, IntKind.signed, IntKind.bits] using w2
  refine ⟨30, ?_⟩
  have h1 : calendar_Months.f 30 a0 a2 = _ := months_f 29 a0 a2 b2.1 b2.2
  have h2 : lexpriorref03_Months.f 30 a0 a2 = _ := rmonths_f 0 a0 a2 b2.1 b2.2
  have h3 : calendar_Age.f 30 a0 a1 = _ := age_f 28 a0 a1
  have h4 : lexpriorref03_Age.f 30 a0 a1 = _ := rage_f 0 a0 a1
  have h5 : lexpriorlaw03_alive.f 30 = some true := alive_f 20
  unfold lexpriorlaw03_CalendarGoes.f
  rw [weekday_f, rweekday_f, h1, h2, h3, h4, h5]
  simp [lexpriorlaw03_num.f]
end Go.Proofs.YtimohodndbkchaaDoor.Pure
