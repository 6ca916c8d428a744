/-
  DERIVED. GIVEN WITH THE SEED: THE CARDS: each row of YtimohodndbkchaaDoorRows.lean that lists a variable, with what it lists TIED to the program's text (the seventh form; the later family's looks); each row that meets fmt, with fmt's text TOLD by the authors' own Lean function (tested against real Go, not proved from fmt's source: count such statements apart). THE CARD IS WHAT COUNTS. Prove the row's statement (the work); the ties are given (YtimohodndbkchaaDoorTie.lean); close each card by the builder's one call (the guide's Derived/Test/ToyasCard.lean, 'card_holds'). Laid BY PROGRAM, IN A SANDBOX (cutbox-door.mjs). By AI agents, Wed Nov 11 2026. No macro, syntax, notation, axiom, sorry.
-/
import Derived.Test.YtimohodndbkchaaDoorRows
import GoSem.ClaimSeven
namespace Go.Proofs.YtimohodndbkchaaDoor
namespace Rows

/-- THE TIED CARD OF 'lexpriorlaw03.CalendarRound'. -/
def calendarRoundCard : Claim7 := { stood := { row := calendarRoundRow, standIns := [], harness := (true, "fc8c09628e56864c1c259692edb53b5e18ed6ef6fb32a82599e1efd48873ec07"), looks := false }, kinds := [], alts := [], laidByText := true, laidKinds := [.data, .data, .data], laidTests := true, laidLooks := .later }
def CalendarRoundCardSaid : Prop := Claim7.holds Tryd.pinned (.plain (OpenSpec.ofChange calendarRoundSpec)) calendarRoundCard

/-- THE TIED CARD OF 'lexpriorlaw03.CalendarDays'. -/
def calendarDaysCard : Claim7 := { stood := { row := calendarDaysRow, standIns := [], harness := (true, "fc8c09628e56864c1c259692edb53b5e18ed6ef6fb32a82599e1efd48873ec07"), looks := false }, kinds := [], alts := [], laidByText := true, laidKinds := [.data, .data, .data], laidTests := true, laidLooks := .later }
def CalendarDaysCardSaid : Prop := Claim7.holds Tryd.pinned (.plain (OpenSpec.ofChange calendarDaysSpec)) calendarDaysCard

/-- THE TIED CARD OF 'lexpriorlaw03.CalendarAges'. -/
def calendarAgesCard : Claim7 := { stood := { row := calendarAgesRow, standIns := [], harness := (true, "fc8c09628e56864c1c259692edb53b5e18ed6ef6fb32a82599e1efd48873ec07"), looks := false }, kinds := [], alts := [], laidByText := true, laidKinds := [.data, .data, .data], laidTests := true, laidLooks := .later }
def CalendarAgesCardSaid : Prop := Claim7.holds Tryd.pinned (.plain (OpenSpec.ofChange calendarAgesSpec)) calendarAgesCard

/-- THE TIED CARD OF 'lexpriorlaw03.CalendarTexts'. -/
def calendarTextsCard : Claim7 := { stood := { row := calendarTextsRow, standIns := [], harness := (true, "fc8c09628e56864c1c259692edb53b5e18ed6ef6fb32a82599e1efd48873ec07"), looks := false }, kinds := [], alts := [], laidByText := true, laidKinds := [.data, .data, .data], laidTests := true, laidLooks := .later }
def CalendarTextsCardSaid : Prop := Claim7.holds Tryd.pinned (.plain (OpenSpec.ofChange calendarTextsSpec)) calendarTextsCard

/-- THE TIED CARD OF 'lexpriorlaw03.CalendarMonths'. -/
def calendarMonthsCard : Claim7 := { stood := { row := calendarMonthsRow, standIns := [], harness := (true, "fc8c09628e56864c1c259692edb53b5e18ed6ef6fb32a82599e1efd48873ec07"), looks := false }, kinds := [], alts := [], laidByText := true, laidKinds := [.data, .data, .data], laidTests := true, laidLooks := .later }
def CalendarMonthsCardSaid : Prop := Claim7.holds Tryd.pinned (.plain (OpenSpec.ofChange calendarMonthsSpec)) calendarMonthsCard

/-- THE TIED CARD OF 'lexpriorlaw03.CalendarGoes'. -/
def calendarGoesCard : Claim7 := { stood := { row := calendarGoesRow, standIns := [], harness := (true, "fc8c09628e56864c1c259692edb53b5e18ed6ef6fb32a82599e1efd48873ec07"), looks := false }, kinds := [], alts := [], laidByText := true, laidKinds := [.data, .data, .data], laidTests := true, laidLooks := .later }
def CalendarGoesCardSaid : Prop := Claim7.holds Tryd.pinned (.plain (OpenSpec.ofChange calendarGoesSpec)) calendarGoesCard

/-- THE TIED CARD OF 'lexpriorlaw03.CalendarBack'. -/
def calendarBackCard : Claim7 := { stood := { row := calendarBackRow, standIns := [], harness := (true, "fc8c09628e56864c1c259692edb53b5e18ed6ef6fb32a82599e1efd48873ec07"), looks := false }, kinds := [], alts := [], laidByText := true, laidKinds := [.data, .data, .data], laidTests := true, laidLooks := .later }
def CalendarBackCardSaid : Prop := Claim7.holds Tryd.pinned (.plain (OpenSpec.ofChange calendarBackSpec)) calendarBackCard

/-- THE SECOND FORM's CARD OF 'lexpriorlaw03.CalendarRound'. -/
def calendarRoundUptoCard : Claim7 := { stood := { row := calendarRoundUptoRow, standIns := [], harness := (true, "fc8c09628e56864c1c259692edb53b5e18ed6ef6fb32a82599e1efd48873ec07"), looks := false }, kinds := [], alts := [], laidByText := true, laidKinds := [.data, .data, .data], laidTests := true, laidLooks := .later }
def CalendarRoundUptoCardSaid : Prop := Claim7.holds Tryd.pinned (.plain (OpenSpec.upto calendarRoundSpec)) calendarRoundUptoCard

/-- THE SECOND FORM's CARD OF 'lexpriorlaw03.CalendarDays'. -/
def calendarDaysUptoCard : Claim7 := { stood := { row := calendarDaysUptoRow, standIns := [], harness := (true, "fc8c09628e56864c1c259692edb53b5e18ed6ef6fb32a82599e1efd48873ec07"), looks := false }, kinds := [], alts := [], laidByText := true, laidKinds := [.data, .data, .data], laidTests := true, laidLooks := .later }
def CalendarDaysUptoCardSaid : Prop := Claim7.holds Tryd.pinned (.plain (OpenSpec.upto calendarDaysSpec)) calendarDaysUptoCard

/-- THE SECOND FORM's CARD OF 'lexpriorlaw03.CalendarAges'. -/
def calendarAgesUptoCard : Claim7 := { stood := { row := calendarAgesUptoRow, standIns := [], harness := (true, "fc8c09628e56864c1c259692edb53b5e18ed6ef6fb32a82599e1efd48873ec07"), looks := false }, kinds := [], alts := [], laidByText := true, laidKinds := [.data, .data, .data], laidTests := true, laidLooks := .later }
def CalendarAgesUptoCardSaid : Prop := Claim7.holds Tryd.pinned (.plain (OpenSpec.upto calendarAgesSpec)) calendarAgesUptoCard

/-- THE SECOND FORM's CARD OF 'lexpriorlaw03.CalendarTexts'. -/
def calendarTextsUptoCard : Claim7 := { stood := { row := calendarTextsUptoRow, standIns := [], harness := (true, "fc8c09628e56864c1c259692edb53b5e18ed6ef6fb32a82599e1efd48873ec07"), looks := false }, kinds := [], alts := [], laidByText := true, laidKinds := [.data, .data, .data], laidTests := true, laidLooks := .later }
def CalendarTextsUptoCardSaid : Prop := Claim7.holds Tryd.pinned (.plain (OpenSpec.upto calendarTextsSpec)) calendarTextsUptoCard

/-- THE SECOND FORM's CARD OF 'lexpriorlaw03.CalendarMonths'. -/
def calendarMonthsUptoCard : Claim7 := { stood := { row := calendarMonthsUptoRow, standIns := [], harness := (true, "fc8c09628e56864c1c259692edb53b5e18ed6ef6fb32a82599e1efd48873ec07"), looks := false }, kinds := [], alts := [], laidByText := true, laidKinds := [.data, .data, .data], laidTests := true, laidLooks := .later }
def CalendarMonthsUptoCardSaid : Prop := Claim7.holds Tryd.pinned (.plain (OpenSpec.upto calendarMonthsSpec)) calendarMonthsUptoCard

/-- THE SECOND FORM's CARD OF 'lexpriorlaw03.CalendarGoes'. -/
def calendarGoesUptoCard : Claim7 := { stood := { row := calendarGoesUptoRow, standIns := [], harness := (true, "fc8c09628e56864c1c259692edb53b5e18ed6ef6fb32a82599e1efd48873ec07"), looks := false }, kinds := [], alts := [], laidByText := true, laidKinds := [.data, .data, .data], laidTests := true, laidLooks := .later }
def CalendarGoesUptoCardSaid : Prop := Claim7.holds Tryd.pinned (.plain (OpenSpec.upto calendarGoesSpec)) calendarGoesUptoCard

/-- THE SECOND FORM's CARD OF 'lexpriorlaw03.CalendarBack'. -/
def calendarBackUptoCard : Claim7 := { stood := { row := calendarBackUptoRow, standIns := [], harness := (true, "fc8c09628e56864c1c259692edb53b5e18ed6ef6fb32a82599e1efd48873ec07"), looks := false }, kinds := [], alts := [], laidByText := true, laidKinds := [.data, .data, .data], laidTests := true, laidLooks := .later }
def CalendarBackUptoCardSaid : Prop := Claim7.holds Tryd.pinned (.plain (OpenSpec.upto calendarBackSpec)) calendarBackUptoCard
end Rows
end Go.Proofs.YtimohodndbkchaaDoor
