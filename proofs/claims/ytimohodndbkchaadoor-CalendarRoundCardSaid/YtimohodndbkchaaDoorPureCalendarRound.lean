/- Weekdays go round; four hundred years on all is the same. -/
import Derived.Test.YtimohodndbkchaaDoorCalR
namespace Go.Proofs.YtimohodndbkchaaDoor.Pure
open Go.RowKit Go.Proofs.YtimohodndbkchaaDoor.P Go.Proofs.YtimohodndbkchaaDoorW.PrintWords Go.Proofs.YtimohodndbkchaaDoorW.PrintLast

theorem ahead_400 (y : Int) : aheadI (y + 400) = aheadI y + 146097 := by unfold aheadI; omega
theorem leap_400 (y : Int) : leapI (y + 400) = leapI y := by
  unfold leapI leapB
  rw [show (y + 400) % 4 = y % 4 from by omega, show (y + 400) % 100 = y % 100 from by omega, show (y + 400) % 400 = y % 400 from by omega]
theorem parts_400 (d : Int) (h0 : 1 ≤ d) (h1 : d ≤ 3505962) : partsI (d + 146097) = ((partsI d).1 + 400, (partsI d).2.1, (partsI d).2.2) := by
  obtain ⟨y, m, k, hp, hd, rfl⟩ := parts_case d h0 (by omega)
  rw [hp]
  have a := of_in y m k hd
  have e : ofI y m k + 146097 = ofI (y + 400) m k := by
    unfold ofI cumI
    rw [ahead_400, leap_400]
    omega
  have b : y + 400 ≤ 9999 := by
    have c := ahead_mono 10000 (y + 400)
    have f := ahead_400 y
    rw [show aheadI 10000 = 3652059 from by decide] at c
    by_cases g : y + 400 ≤ 9999
    · exact g
    · have := c (by omega)
      omega
  have hd' : isD (y + 400) m k := by
    obtain ⟨⟨y0, y1, m0, m1⟩, d0, d1⟩ := hd
    refine ⟨⟨by omega, b, m0, m1⟩, d0, ?_⟩
    unfold daysI at d1 ⊢
    rw [leap_400]
    exact d1
  rw [e, parts_inv _ _ _ hd']
theorem CalendarRound : lexpriorlaw03_CalendarRound.Pure := by
  intro d w0
  have b0 : -9223372036854775808 ≤ d ∧ d ≤ 9223372036854775807 := by simpa [Lit.wf, IntKind.min, IntKind.max, IntKind.signed, IntKind.bits] using w0
  refine ⟨30, ?_⟩
  have h5 : lexpriorlaw03_alive.f 30 = some true := alive_f 20
  unfold lexpriorlaw03_CalendarRound.f
  rw [h5, weekday_f]
  simp only [Option.bind_some, lexpriorlaw03_num.f, if_true]
  by_cases h : isDay d
  · rw [if_pos h]
    obtain ⟨d0, d1⟩ := id h
    simp only [if_true]
    have J : lexpriorlaw03_CalendarRound.j0 30 d ((d - 1) % 7 + 1) = some true := by
      rw [lexpriorlaw03_CalendarRound.j0]
      by_cases g : d > 3505962
      · rw [if_pos g, if_pos (by omega)]
        congr 1
        exact decide_eq_true (by omega)
      · rw [if_neg g, w64 _ (by omega) (by omega), Parts_f, Parts_f, weekday_f, if_pos h, if_pos (by omega), if_pos (by omega), parts_400 d d0 (by omega)]
        have hp := parts_fits d h
        simp only [Option.bind_some, if_true]
        rw [w64 _ (by omega) (by omega), if_pos rfl]
        congr 1
        exact beq_iff_eq.2 (by omega)
    by_cases g : d < 3652059
    · rw [if_pos g, w64 _ (by omega) (by omega), weekday_f, if_pos (by omega)]
      simp only [Option.bind_some, if_true]
      rw [Int.tmod_eq_emod_of_nonneg (by omega), w64 _ (by omega) (by omega), if_pos (by omega)]
      exact J
    · rw [if_neg g]
      exact J
  · rw [if_neg h]
    simp
end Go.Proofs.YtimohodndbkchaaDoor.Pure
