/- Texts: the program's reading and printing are the document's. -/
import Derived.Test.YtimohodndbkchaaDoorCalU
namespace Go.Proofs.YtimohodndbkchaaDoor.Pure
open Go.RowKit Go.Proofs.YtimohodndbkchaaDoor.P Go.Proofs.YtimohodndbkchaaDoorW.PrintWords Go.Proofs.YtimohodndbkchaaDoorW.PrintLast

theorem parse_some (s : ByteArray) : ∃ r, calendar_Parse.f s = some r := by
  unfold calendar_Parse.f
  split
  · exact ⟨_, Of_f _ _ _⟩
  · exact ⟨_, rfl⟩
theorem CalendarTexts : lexpriorlaw03_CalendarTexts.Pure := by
  intro s d _ _
  refine ⟨50, ?_⟩
  have h1 : lexpriorref03_Parse.f 50 s = _ := rParse_f 10 s
  have h2 : calendar_Print.f 50 d = _ := Print_f 38 d
  have h3 : lexpriorref03_Print.f 50 d = _ := rPrint_f 20 d
  have h4 : lexpriorlaw03_alive.f 50 = some true := alive_f 40
  obtain ⟨r, hr⟩ := parse_some s
  unfold lexpriorlaw03_CalendarTexts.f
  rw [h1, h2, h3, h4, hr]
  simp [lexpriorlaw03_num.f]
end Go.Proofs.YtimohodndbkchaaDoor.Pure
