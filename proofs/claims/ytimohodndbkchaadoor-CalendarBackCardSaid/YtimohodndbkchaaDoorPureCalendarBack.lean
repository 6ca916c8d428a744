/- Of of Parts and Parse of Print are the day; the day behind is the next. -/
import Derived.Test.YtimohodndbkchaaDoorCalV
import Derived.Test.YtimohodndbkchaaDoorPureCalendarAges
namespace Go.Proofs.YtimohodndbkchaaDoor.Pure
open Go.RowKit Go.Proofs.YtimohodndbkchaaDoor.P Go.Proofs.YtimohodndbkchaaDoorW.PrintWords Go.Proofs.YtimohodndbkchaaDoorW.PrintLast

theorem last_parts : partsI 3652059 = (9999, 12, 31) := by decide +kernel
theorem CalendarBack : lexpriorlaw03_CalendarBack.Pure := by
  intro d w0
  refine ⟨50, ?_⟩
  have h1 : lexpriorlaw03_alive.f 50 = some true := alive_f 40
  have h2 : calendar_Print.f 50 d = _ := Print_f 38 d
  unfold lexpriorlaw03_CalendarBack.f
  rw [h1, Parts_f, h2]
  simp only [Option.bind_some, lexpriorlaw03_num.f, if_true]
  by_cases h : isDay d
  · obtain ⟨y, m, k, hp, hd, e⟩ := parts_case d h.1 h.2
    rw [show (if 1 ≤ d ∧ d ≤ 3652059 then ((partsI d).1, (partsI d).2.1, (partsI d).2.2, (0 : Int)) else (0, 0, 0, 31)) = (y, m, k, 0) from by rw [if_pos h, hp], if_pos h, hp]
    simp only [if_true]
    rw [Of_f, if_pos hd, Parse_print y m k hd]
    simp only [Option.bind_some, if_true]
    rw [if_pos e, if_pos e, ba_size, printL_length, show (((10 : Nat) : Int) != 10) = false from rfl, lexpriorlaw03_CalendarBack.j0, if_neg (by decide)]
    by_cases hl : d = 3652059
    · rw [if_pos hl]
      rw [hl, last_parts] at hp
      simp only [Prod.mk.injEq] at hp
      obtain ⟨rfl, rfl, rfl⟩ := hp
      rfl
    · have ⟨q0, q1⟩ := id h
      rw [if_neg hl, w64 _ (by omega) (by omega), Parts_f, if_pos (by omega), Days_f, if_pos hd.1]
      simp only [Option.bind_some, lexpriorlaw03_num.f, if_true]
      have hn := parts_next y m k hd (by omega)
      rw [e] at hn
      rw [hn, show ((0 : Int) != 0) = false from rfl, lexpriorlaw03_CalendarBack.j1, if_neg (by decide)]
      obtain ⟨⟨y0, y1, m0, m1⟩, d0, d1⟩ := id hd
      have dd := days_fits y m
      by_cases c1 : k < daysI y m
      · rw [if_pos c1, if_pos c1]
        simp only [if_true]
        rw [w64 _ (by omega) (by omega)]
        simp
      · rw [if_neg c1, if_neg c1]
        by_cases c2 : m < 12
        · rw [if_pos c2, if_pos c2]
          simp only [if_true]
          rw [w64 _ (by omega) (by omega)]
          simp
        · rw [if_neg c2, if_neg c2]
          simp only
          rw [w64 _ (by omega) (by omega)]
          simp
  · rw [show (if 1 ≤ d ∧ d ≤ 3652059 then ((partsI d).1, (partsI d).2.1, (partsI d).2.2, (0 : Int)) else (0, 0, 0, 31)) = (0, 0, 0, 31) from if_neg h, if_neg h]
    simp only
    rw [if_neg (by decide)]
    by_cases c : d < 1
    · rw [if_pos c]; rfl
    · rw [if_neg c, if_pos (by omega)]; rfl
end Go.Proofs.YtimohodndbkchaaDoor.Pure
