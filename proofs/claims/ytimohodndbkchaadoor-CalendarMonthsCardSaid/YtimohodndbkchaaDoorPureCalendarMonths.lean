/- By none it is the day; by one number and then another it is by both, where the day is at most the 28th. -/
import Derived.Test.YtimohodndbkchaaDoorCalR
namespace Go.Proofs.YtimohodndbkchaaDoor.Pure
open Go.RowKit Go.Proofs.YtimohodndbkchaaDoor.P Go.Proofs.YtimohodndbkchaaDoorW.PrintWords Go.Proofs.YtimohodndbkchaaDoorW.PrintLast

theorem months_zero (d : Int) (h : isDay d) : monthsI d 0 = (d, 0) := by
  obtain ⟨y, m, k, hp, hd, rfl⟩ := parts_case d h.1 h.2
  obtain ⟨⟨y0, y1, m0, m1⟩, d0, d1⟩ := id hd
  unfold monthsI monthI atI
  rw [if_pos h, hp]
  simp only
  rw [if_pos (by omega), show (12 * (y - 1) + m - 1 + 0) / 12 + 1 = y from by omega, show (12 * (y - 1) + m - 1 + 0) % 12 + 1 = m from by omega, if_neg (by omega)]
/-- by a number, of a day up to the 28th: the day's parts -/
theorem months_on (d n : Int) (h : isDay d) (h28 : (partsI d).2.2 ≤ 28) (hok : (monthsI d n).2 = 0) :
    isDay (monthsI d n).1 ∧ atI (partsI (monthsI d n).1) = atI (partsI d) + n ∧ (partsI (monthsI d n).1).2.2 = (partsI d).2.2 := by
  have hp := parts_fits d h
  unfold monthsI monthI at hok ⊢
  rw [if_pos h] at hok ⊢
  generalize atI (partsI d) + n = t at *
  generalize partsI d = p at *
  obtain ⟨y, m, k⟩ := p
  simp only at hp h28 hok ⊢
  by_cases g : 0 ≤ t ∧ t < 119988
  · rw [if_pos g]
    have dd := days_fits (t / 12 + 1) (t % 12 + 1)
    simp only
    rw [if_neg (show ¬ daysI (t / 12 + 1) (t % 12 + 1) < k from by omega)]
    have hd : isD (t / 12 + 1) (t % 12 + 1) k := ⟨⟨by omega, by omega, by omega, by omega⟩, by omega, by omega⟩
    refine ⟨of_day _ _ _ hd, ?_, ?_⟩
    · rw [parts_inv _ _ _ hd]
      unfold atI
      simp only
      omega
    · rw [parts_inv _ _ _ hd]
  · rw [if_neg g] at hok
    cases hok
theorem CalendarMonths : lexpriorlaw03_CalendarMonths.Pure := by
  intro d a b w0 w1 w2
  refine ⟨30, ?_⟩
  have h5 : lexpriorlaw03_alive.f 30 = some true := alive_f 20
  have h6 : calendar_Months.f 30 d 0 = _ := months_f 29 d 0 (by omega) (by omega)
  unfold lexpriorlaw03_CalendarMonths.f
  rw [h5, Parts_f, h6]
  simp only [Option.bind_some, lexpriorlaw03_num.f, if_true]
  by_cases h : isDay d
  · rw [show (if 1 ≤ d ∧ d ≤ 3652059 then ((partsI d).1, (partsI d).2.1, (partsI d).2.2, (0 : Int)) else (0, 0, 0, 31)) = ((partsI d).1, (partsI d).2.1, (partsI d).2.2, 0) from if_pos h, months_zero d h]
    simp only [if_true, bne_self_eq_false]
    rw [lexpriorlaw03_CalendarMonths.j0, if_neg (by decide)]
    have no : lexpriorlaw03_CalendarMonths.j1 29 d a b true = some true := by rw [lexpriorlaw03_CalendarMonths.j1, if_pos rfl]
    by_cases c1 : (partsI d).2.2 > 28
    · rw [if_pos c1, no]
    · rw [if_neg c1]
      by_cases c2 : a < -200000
      · rw [if_pos c2, no]
      · rw [if_neg c2]
        by_cases c3 : a > 200000
        · rw [if_pos c3, no]
        · rw [if_neg c3]
          by_cases c4 : b < -200000
          · rw [if_pos c4, no]
          · rw [if_neg c4]
            by_cases c5 : b > 200000
            · rw [decide_eq_true c5, no]
            · rw [decide_eq_false c5, lexpriorlaw03_CalendarMonths.j1, if_neg (by decide)]
              have m1 : calendar_Months.f 28 d a = _ := months_f 27 d a (by omega) (by omega)
              have m2 : calendar_Months.f 28 (monthsI d a).1 b = _ := months_f 27 _ b (by omega) (by omega)
              have m3 : calendar_Months.f 28 d (a + b) = _ := months_f 27 d (a + b) (by omega) (by omega)
              rw [m1]
              simp only [Option.bind_some, lexpriorlaw03_num.f]
              by_cases g : (monthsI d a).2 = 0
              · rw [if_pos g, m2, w64 _ (by omega) (by omega), m3]
                simp only [Option.bind_some]
                obtain ⟨q1, q2, q3⟩ := months_on d a h (by omega) g
                have e : monthsI (monthsI d a).1 b = monthsI d (a + b) := by
                  rw [show monthsI (monthsI d a).1 b = monthI (atI (partsI (monthsI d a).1) + b) (partsI (monthsI d a).1).2.2 from if_pos q1, q2, q3, Int.add_assoc]
                  exact (if_pos h).symm
                rw [e, if_pos rfl]
                simp
              · rw [if_neg g]
  · rw [show (if 1 ≤ d ∧ d ≤ 3652059 then ((partsI d).1, (partsI d).2.1, (partsI d).2.2, (0 : Int)) else (0, 0, 0, 31)) = (0, 0, 0, 31) from if_neg h]
    simp
end Go.Proofs.YtimohodndbkchaaDoor.Pure
