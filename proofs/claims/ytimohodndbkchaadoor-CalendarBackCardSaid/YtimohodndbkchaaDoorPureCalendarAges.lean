/- Age begins with 0, never falls, and rises by at most 1 a day. -/
import Derived.Test.YtimohodndbkchaaDoorCalR
namespace Go.Proofs.YtimohodndbkchaaDoor.Pure
open Go.RowKit Go.Proofs.YtimohodndbkchaaDoor.P Go.Proofs.YtimohodndbkchaaDoorW.PrintWords Go.Proofs.YtimohodndbkchaaDoorW.PrintLast

/-- the day behind a day -/
theorem parts_next (y m k : Int) (hd : isD y m k) (hl : ofI y m k < 3652059) :
    partsI (ofI y m k + 1) = if k < daysI y m then (y, m, k + 1) else if m < 12 then (y, m + 1, 1) else (y + 1, 1, 1) := by
  obtain ⟨⟨y0, y1, m0, m1⟩, d0, d1⟩ := id hd
  by_cases a : k < daysI y m
  · rw [if_pos a, show ofI y m k + 1 = ofI y m (k + 1) from by unfold ofI; omega]
    exact parts_inv _ _ _ ⟨⟨y0, y1, m0, m1⟩, by omega, by omega⟩
  · rw [if_neg a]
    by_cases b : m < 12
    · have c := cum_succ y m m0 m1
      rw [if_pos b, show ofI y m k + 1 = ofI y (m + 1) 1 from by unfold ofI; omega]
      have := days_fits y (m + 1)
      exact parts_inv _ _ _ ⟨⟨y0, y1, by omega, by omega⟩, by omega, by omega⟩
    · obtain rfl : m = 12 := by omega
      have c := cum_succ y 12 m0 m1
      rw [show (12 : Int) + 1 = 13 from rfl, cum_end] at c
      have f := ahead_succ y
      have e : ofI y 12 k + 1 = ofI (y + 1) 1 1 := by
        unfold ofI
        rw [cum_one]
        omega
      rw [if_neg b, e]
      have g : y + 1 ≤ 9999 := by
        by_cases g : y + 1 ≤ 9999
        · exact g
        · exfalso
          have := ahead_mono 10000 (y + 1) (by omega)
          rw [show aheadI 10000 = 3652059 from by decide] at this
          unfold ofI at hl
          omega
      have := days_fits (y + 1) 1
      exact parts_inv _ _ _ ⟨⟨by omega, g, by omega, by omega⟩, by omega, by omega⟩
theorem age_same (d : Int) (h : isDay d) : ageI d d = (0, 0) := by
  obtain ⟨y, m, k, hp, hd, e⟩ := parts_case d h.1 h.2
  unfold ageI yearsI
  rw [if_pos ⟨h, h⟩, if_neg (by omega), hp]
  have : bornI (y, m, k) y = (m, k) := by
    unfold bornI
    rw [if_neg]
    rintro ⟨a, b, c⟩
    simp only at a b
    have := hd.2.2
    unfold daysI leapI at this
    rw [if_pos a, c] at this
    simp at this
    omega
  simp only
  rw [this, if_neg (by simp)]
  simp
theorem age_steps (b a : Int) (hb : isDay b) (h : b ≤ a) (hl : a < 3652059) :
    0 ≤ yearsI (partsI b) (partsI a) ∧ (yearsI (partsI b) (partsI (a + 1)) = yearsI (partsI b) (partsI a) ∨ yearsI (partsI b) (partsI (a + 1)) = yearsI (partsI b) (partsI a) + 1) := by
  obtain ⟨y, m, k, hp, hd, eb⟩ := parts_case b hb.1 hb.2
  obtain ⟨z, n, f, hq, he, ea⟩ := parts_case a (by have := hb.1; omega) (by omega)
  have hnext := parts_next z n f he (by omega)
  rw [ea] at hnext
  rw [hnext, hp, hq]
  have lex : ¬ (z < y ∨ (z = y ∧ n < m) ∨ (z = y ∧ n = m ∧ f < k)) := fun x => by
    have := of_lt z n f y m k he hd x
    omega
  obtain ⟨⟨y0, y1, m0, m1⟩, k0, k1⟩ := id hd
  obtain ⟨⟨z0, z1, n0, n1⟩, f0, f1⟩ := id he
  have dz := days_fits z n
  have dy := days_fits y m
  have born : z = y → bornI (y, m, k) z = (m, k) := by
    rintro rfl
    unfold bornI
    rw [if_neg]
    rintro ⟨a, b, c⟩
    simp only at a b
    have := k1
    unfold daysI leapI at this
    rw [if_pos a, c] at this
    simp at this
    omega
  have bits : ∀ x, 1 ≤ (bornI (y, m, k) x).1 ∧ (bornI (y, m, k) x).1 ≤ 12 ∧ 1 ≤ (bornI (y, m, k) x).2 ∧ (bornI (y, m, k) x).2 ≤ 31 := by
    intro x
    unfold bornI
    split
    · simp
    · simp only; omega
  refine ⟨?_, ?_⟩
  · unfold yearsI
    simp only
    by_cases c : z = y
    · rw [born c]
      simp only
      rw [if_neg (by omega)]
      omega
    · split <;> omega
  · have bz := bits z
    by_cases c1 : f < daysI z n
    · rw [if_pos c1]
      unfold yearsI
      simp only
      generalize bornI (y, m, k) z = p at *
      split <;> split <;> omega
    · rw [if_neg c1]
      by_cases c2 : n < 12
      · rw [if_pos c2]
        unfold yearsI
        simp only
        generalize bornI (y, m, k) z = p at *
        split <;> split <;> omega
      · rw [if_neg c2]
        obtain rfl : n = 12 := by omega
        have : daysI z 12 = 31 := by unfold daysI; simp
        unfold yearsI
        simp only
        generalize bornI (y, m, k) z = p at *
        generalize bornI (y, m, k) (z + 1) = q at *
        split <;> split <;> omega
theorem CalendarAges : lexpriorlaw03_CalendarAges.Pure := by
  intro b a w0 w1
  have b1 : -9223372036854775808 ≤ a ∧ a ≤ 9223372036854775807 := by simpa [Lit.wf, IntKind.min, IntKind.max, IntKind.signed, IntKind.bits] using w1
  refine ⟨30, ?_⟩
  have h5 : lexpriorlaw03_alive.f 30 = some true := alive_f 20
  have h6 : calendar_Age.f 30 b b = _ := age_f 28 b b
  unfold lexpriorlaw03_CalendarAges.f
  rw [h5, h6]
  simp only [Option.bind_some, lexpriorlaw03_num.f, if_true]
  by_cases h : isDay b
  · rw [age_same b h]
    simp only [if_true]
    have no : lexpriorlaw03_CalendarAges.j0 30 b a 0 true = some true := by rw [lexpriorlaw03_CalendarAges.j0, if_pos rfl]; rfl
    by_cases c : a < b
    · rw [if_pos c, no]
    · rw [if_neg c]
      by_cases g : a ≥ 3652059
      · rw [decide_eq_true g, no]
      · rw [decide_eq_false g, lexpriorlaw03_CalendarAges.j0, if_neg (by decide)]
        have m1 : calendar_Age.f 29 b a = _ := age_f 27 b a
        have m2 : calendar_Age.f 29 b (a + 1) = _ := age_f 27 b (a + 1)
        have ⟨b0, _⟩ := id h
        rw [w64 _ (by omega) (by omega), m1, m2]
        have e1 : ageI b a = (yearsI (partsI b) (partsI a), 0) := by
          unfold ageI
          rw [if_pos ⟨h, by omega⟩, if_neg (by omega)]
        have e2 : ageI b (a + 1) = (yearsI (partsI b) (partsI (a + 1)), 0) := by
          unfold ageI
          rw [if_pos ⟨h, by omega⟩, if_neg (by omega)]
        rw [e1, e2]
        simp only [Option.bind_some, lexpriorlaw03_num.f, if_true]
        obtain ⟨s0, s1⟩ := age_steps b a h (by omega) (by omega)
        rw [if_pos s0]
        have f1 := parts_fits b h
        have f2 := parts_fits a ⟨by omega, by omega⟩
        have s2 : yearsI (partsI b) (partsI a) ≤ 9999 := by
          unfold yearsI
          split <;> omega
        generalize yearsI (partsI b) (partsI a) = u at *
        rcases s1 with s1 | s1
        · rw [if_pos s1]
        · rw [if_neg (by omega), w64 _ (by omega) (by omega), s1]
          simp
  · have e : ageI b b = (0, 31) := by
      unfold ageI
      rw [if_neg (fun x => h x.1)]
    rw [e]
    simp only
    rw [if_neg (by decide)]
    by_cases c : b < 1
    · rw [if_pos c]
    · rw [if_neg c]
      congr 1
      exact decide_eq_true (by omega)
end Go.Proofs.YtimohodndbkchaaDoor.Pure
