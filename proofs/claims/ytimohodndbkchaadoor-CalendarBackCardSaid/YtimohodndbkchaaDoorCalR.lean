/- The calendar's examples, weekdays, months on, and ages, as whole-number functions. -/
import Derived.Test.YtimohodndbkchaaDoorCalQ
namespace Go.Proofs.YtimohodndbkchaaDoor.P
open Go.RowKit Go.Proofs.YtimohodndbkchaaDoorW.PrintWords Go.Proofs.YtimohodndbkchaaDoorW.PrintLast

theorem leO_add {α : Type} {g : Nat → Option α} (h : ∀ k, LeO (g k) (g (k + 1))) (n k : Nat) : LeO (g n) (g (n + k)) := by
  induction k with
  | zero => exact LeO.refl _
  | succ k ih => exact LeO.trans ih (h (n + k))
set_option maxRecDepth 100000 in
theorem alive_10 : lexpriorlaw03_alive.f 10 = some true := by decide +kernel
theorem alive_f (k : Nat) : lexpriorlaw03_alive.f (k + 10) = some true := by
  rw [Nat.add_comm]
  exact leO_add lexpriorlaw03_alive.mono 10 k _ alive_10
abbrev isDay (d : Int) : Prop := 1 ≤ d ∧ d ≤ 3652059
theorem weekday_f (d : Int) : calendar_Weekday.f d = some (if isDay d then ((d - 1) % 7 + 1, 0) else (0, 31)) := by
  unfold calendar_Weekday.f isDay
  rw [isDay_f]
  simp only [Option.bind_some]
  by_cases h : 1 ≤ d ∧ d ≤ 3652059
  · rw [if_pos (decide_eq_true h), if_pos h]
    simp (disch := omega) only [w64, Int.tmod_eq_emod_of_nonneg]
  · rw [if_neg (by simp [h]), if_neg h]
theorem rweekday_f (d : Int) : lexpriorref03_Weekday.f d = some (if isDay d then ((d - 1) % 7 + 1, 0) else (0, 31)) := by
  unfold lexpriorref03_Weekday.f isDay
  by_cases a : d < 1
  · rw [if_pos a, if_neg (by omega)]
  · rw [if_neg a]
    by_cases b : d > 3652059
    · rw [if_pos b, if_neg (by omega)]
    · rw [if_neg b, if_pos (by omega)]
      simp (disch := omega) only [w64, Int.tmod_eq_emod_of_nonneg]

/-! months on -/
def atI (p : Int × Int × Int) : Int := 12 * (p.1 - 1) + p.2.1 - 1
def monthI (at_ k : Int) : Int × Int := if 0 ≤ at_ ∧ at_ < 119988 then (ofI (at_ / 12 + 1) (at_ % 12 + 1) (if daysI (at_ / 12 + 1) (at_ % 12 + 1) < k then daysI (at_ / 12 + 1) (at_ % 12 + 1) else k), 0) else (0, 4)
def monthsI (d n : Int) : Int × Int := if isDay d then monthI (atI (partsI d) + n) (partsI d).2.2 else (0, 31)
theorem parts_fits (d : Int) (h : isDay d) : 1 ≤ (partsI d).1 ∧ (partsI d).1 ≤ 9999 ∧ 1 ≤ (partsI d).2.1 ∧ (partsI d).2.1 ≤ 12 ∧ 1 ≤ (partsI d).2.2 ∧ (partsI d).2.2 ≤ daysI (partsI d).1 (partsI d).2.1 := by
  obtain ⟨⟨a, b, c, e⟩, f, g⟩ := (parts_of d h.1 h.2).1
  exact ⟨a, b, c, e, f, g⟩
theorem months_f (k : Nat) (d n : Int) (n0 : -9223372036854775808 ≤ n) (n1 : n ≤ 9223372036854775807) : calendar_Months.f (k + 1) d n = some (monthsI d n) := by
  unfold calendar_Months.f monthsI calendar_parts.f
  rw [isDay_f]
  simp only [Option.bind_some]
  by_cases h : isDay d
  · have hp := parts_fits d h
    rw [if_pos (decide_eq_true h), if_pos h, if_pos h]
    simp only [Option.bind_some]
    unfold atI monthI
    generalize partsI d = p at *
    obtain ⟨y, m, x⟩ := p
    simp only at hp ⊢
    obtain ⟨y0, y1, m0, m1, x0, x1⟩ := hp
    have e : wrap64 (wrap64 (wrap64 (12 * wrap64 (y - 1)) + m) - 1) = 12 * (y - 1) + m - 1 := by simp (disch := omega) only [w64]
    rw [e]
    have no : ∀ z, calendar_Months.j0 (k + 1) n z true y m x = some (0, 4) := fun z => by rw [calendar_Months.j0, if_pos rfl]
    by_cases a : n > 119988
    · rw [if_pos a, no, if_neg (by omega)]
    · rw [if_neg a]
      by_cases b : n < -119988
      · rw [if_pos b, no, if_neg (by omega)]
      · rw [if_neg b, w64 _ (by omega) (by omega)]
        by_cases c : 12 * (y - 1) + m - 1 + n < 0
        · rw [if_pos c, no, if_neg (by omega)]
        · rw [if_neg c]
          by_cases g : 12 * (y - 1) + m - 1 + n ≥ 119988
          · rw [decide_eq_true g, no, if_neg (by omega)]
          · rw [decide_eq_false g, calendar_Months.j0, if_neg (by decide), if_pos (by omega)]
            generalize hat : 12 * (y - 1) + m - 1 + n = t at *
            have dd := days_fits (t / 12 + 1) (t % 12 + 1)
            rw [w64 t (by omega) (by omega), Int.tdiv_eq_ediv_of_nonneg (by omega), Int.tmod_eq_emod_of_nonneg (by omega)]
            rw [w64 (t / 12) (by omega) (by omega), w64 (t / 12 + 1) (by omega) (by omega), w64 (t % 12 + 1) (by omega) (by omega), length_f _ _ (by omega) (by omega) (by omega)]
            simp only [Option.bind_some]
            unfold mn
            rw [date_f _ _ _ (by omega) (by omega) (by omega) (by omega) (by split <;> omega) (by split <;> omega)]
            rfl
  · rw [if_neg (by simpa [isDay] using h), if_neg h]
theorem rmonths_f (k : Nat) (d n : Int) (n0 : -9223372036854775808 ≤ n) (n1 : n ≤ 9223372036854775807) : lexpriorref03_Months.f (k + 30) d n = some (monthsI d n) := by
  unfold lexpriorref03_Months.f monthsI
  rw [rParts_f]
  simp only [Option.bind_some]
  by_cases h : isDay d
  · have hp := parts_fits d h
    rw [if_pos h, if_pos h, if_pos rfl]
    unfold atI monthI
    generalize partsI d = p at *
    obtain ⟨y, m, x⟩ := p
    simp only at hp ⊢
    obtain ⟨y0, y1, m0, m1, x0, x1⟩ := hp
    have dx := days_fits y m
    have no : lexpriorref03_Months.j0 (k + 30) n y m x true = some (0, 4) := by rw [lexpriorref03_Months.j0, if_pos rfl]
    have no1 : ∀ z, lexpriorref03_Months.j1 (k + 29) x z true = some (0, 4) := fun z => by rw [lexpriorref03_Months.j1, if_pos rfl]
    by_cases b : n < -120000
    · rw [if_pos b, no, if_neg (by omega)]
    · rw [if_neg b]
      by_cases a : n > 120000
      · rw [decide_eq_true a, no, if_neg (by omega)]
      · rw [decide_eq_false a, lexpriorref03_Months.j0, if_neg (by decide)]
        have e : wrap64 (wrap64 (wrap64 (wrap64 (y * 12) + m) - 1) + n) = 12 * (y - 1) + m - 1 + n + 12 := by
          simp (disch := omega) only [w64]
          omega
        rw [e]
        generalize hat : 12 * (y - 1) + m - 1 + n = t at *
        by_cases c : t + 12 < 12
        · rw [if_pos c, no1, if_neg (by omega)]
        · rw [if_neg c]
          by_cases g : t + 12 ≥ 120000
          · rw [decide_eq_true g, no1, if_neg (by omega)]
          · rw [decide_eq_false g, lexpriorref03_Months.j1, if_neg (by decide), if_pos (by omega)]
            have dd := days_fits (t / 12 + 1) (t % 12 + 1)
            rw [Int.tdiv_eq_ediv_of_nonneg (by omega), Int.tmod_eq_emod_of_nonneg (by omega)]
            rw [w64 ((t + 12) / 12) (by omega) (by omega), w64 ((t + 12) % 12 + 1) (by omega) (by omega), show (t + 12) / 12 = t / 12 + 1 from by omega, show (t + 12) % 12 = t % 12 from by omega]
            rw [rdays_f _ _ (by omega)]
            simp only [Option.bind_some]
            by_cases f : x > daysI (t / 12 + 1) (t % 12 + 1)
            · rw [if_pos f, show k + 28 = k + 14 + 14 from rfl, rOf_f, if_pos ⟨⟨by omega, by omega, by omega, by omega⟩, by omega, by omega⟩, if_pos (by omega)]
              rfl
            · rw [if_neg f, show k + 28 = k + 14 + 14 from rfl, rOf_f, if_pos ⟨⟨by omega, by omega, by omega, by omega⟩, by omega, by omega⟩, if_neg (by omega)]
              rfl
  · rw [if_neg h, if_neg h, if_neg (by simp)]

/-! ages -/
def bornI (p : Int × Int × Int) (z : Int) : Int × Int := if p.2.1 = 2 ∧ p.2.2 = 29 ∧ leapB z = false then (3, 1) else (p.2.1, p.2.2)
def yearsI (p q : Int × Int × Int) : Int := q.1 - p.1 - (if q.2.1 < (bornI p q.1).1 ∨ (q.2.1 = (bornI p q.1).1 ∧ q.2.2 < (bornI p q.1).2) then 1 else 0)
def ageI (b a : Int) : Int × Int := if isDay b ∧ isDay a then (if a < b then (0, 7) else (yearsI (partsI b) (partsI a), 0)) else (0, 31)
theorem last_if (n : Int) (p q r : Prop) [Decidable p] [Decidable q] [Decidable r] (h0 : -9999 ≤ n) (h1 : n ≤ 9999) :
    (if p then some (wrap64 (n - 1), (0 : Int)) else if q then (if r then some (wrap64 (n - 1), 0) else some (n, 0)) else some (n, 0)) = some (n - (if p ∨ (q ∧ r) then 1 else 0), 0) := by
  rw [w64 _ (by omega) (by omega)]
  by_cases a : p
  · simp [a]
  · by_cases b : q
    · by_cases c : r
      · simp [a, b, c]
      · simp [a, b, c]
    · simp [a, b]
theorem age_f (k : Nat) (b a : Int) : calendar_Age.f (k + 2) b a = some (ageI b a) := by
  unfold calendar_Age.f ageI
  rw [isDay_f, isDay_f]
  simp only [Option.bind_some]
  have no : calendar_Age.j0 (k + 2) b a true = some (0, 31) := by rw [calendar_Age.j0, if_pos rfl]
  by_cases h : isDay b
  · rw [if_pos (decide_eq_true h)]
    by_cases g : isDay a
    · rw [show decide (1 ≤ a ∧ a ≤ 3652059) = true from decide_eq_true g, if_pos ⟨h, g⟩, calendar_Age.j0, if_neg (by decide)]
      by_cases l : a < b
      · rw [if_pos l, if_pos l]
      · rw [if_neg l, if_neg l]
        unfold calendar_parts.f
        rw [if_pos h, if_pos g]
        simp only [Option.bind_some]
        have hp := parts_fits b h
        have hq := parts_fits a g
        unfold yearsI
        generalize partsI b = p at *
        generalize partsI a = q at *
        obtain ⟨y, m, d⟩ := p
        obtain ⟨z, x, f⟩ := q
        simp only at hp hq ⊢
        rw [leap_f z (by omega), w64 (z - y) (by omega) (by omega)]
        simp only [Option.bind_some]
        by_cases m2 : m = 2
        · by_cases d2 : d = 29
          · rw [if_pos m2, if_pos d2]
            cases hz : leapB z with
            | true => rw [show bornI (y, m, d) z = (m, d) from if_neg (by simp [hz]), calendar_Age.j1, if_neg (by simp), last_if _ _ _ _ (by omega) (by omega)]
            | false => rw [show bornI (y, m, d) z = (3, 1) from if_pos ⟨m2, d2, hz⟩, calendar_Age.j1, if_pos (by simp), last_if _ _ _ _ (by omega) (by omega)]
          · rw [if_pos m2, if_neg d2, show bornI (y, m, d) z = (m, d) from if_neg (fun h => d2 h.2.1), calendar_Age.j1, if_neg (by simp), last_if _ _ _ _ (by omega) (by omega)]
        · rw [if_neg m2, show bornI (y, m, d) z = (m, d) from if_neg (fun h => m2 h.1), calendar_Age.j1, if_neg (by simp), last_if _ _ _ _ (by omega) (by omega)]
    · rw [show decide (1 ≤ a ∧ a ≤ 3652059) = false from decide_eq_false g, if_neg (fun x => g x.2)]
      exact no
  · rw [if_neg (by simpa [isDay] using h), if_neg (fun x => h x.1), no]
theorem rage_f (k : Nat) (b a : Int) : lexpriorref03_Age.f (k + 30) b a = some (ageI b a) := by
  unfold lexpriorref03_Age.f ageI
  rw [rParts_f, rParts_f]
  simp only [Option.bind_some]
  by_cases h : isDay b
  · rw [show (if 1 ≤ b ∧ b ≤ 3652059 then ((partsI b).1, (partsI b).2.1, (partsI b).2.2, (0 : Int)) else (0, 0, 0, 31)) = ((partsI b).1, (partsI b).2.1, (partsI b).2.2, 0) from if_pos h]
    simp only [if_pos]
    by_cases g : isDay a
    · rw [show (if 1 ≤ a ∧ a ≤ 3652059 then ((partsI a).1, (partsI a).2.1, (partsI a).2.2, (0 : Int)) else (0, 0, 0, 31)) = ((partsI a).1, (partsI a).2.1, (partsI a).2.2, 0) from if_pos g, if_pos ⟨h, g⟩]
      simp only
      rw [show ((0 : Int) != 0) = false from rfl, lexpriorref03_Age.j0, if_neg (by decide)]
      by_cases l : a < b
      · rw [if_pos l, if_pos l]
      · rw [if_neg l, if_neg l]
        have hp := parts_fits b h
        have hq := parts_fits a g
        unfold yearsI
        generalize partsI b = p at *
        generalize partsI a = q at *
        obtain ⟨y, m, d⟩ := p
        obtain ⟨z, x, f⟩ := q
        simp only at hp hq ⊢
        rw [rleap_f z (by omega), w64 (z - y) (by omega) (by omega)]
        simp only [Option.bind_some]
        by_cases m2 : m = 2
        · by_cases d2 : d = 29
          · rw [if_pos m2, if_pos d2]
            cases hz : leapB z with
            | true => rw [show bornI (y, m, d) z = (m, d) from if_neg (by simp [hz]), lexpriorref03_Age.j1, if_neg (by simp), last_if _ _ _ _ (by omega) (by omega)]
            | false => rw [show bornI (y, m, d) z = (3, 1) from if_pos ⟨m2, d2, hz⟩, lexpriorref03_Age.j1, if_pos (by simp), last_if _ _ _ _ (by omega) (by omega)]
          · rw [if_pos m2, if_neg d2, show bornI (y, m, d) z = (m, d) from if_neg (fun h => d2 h.2.1), lexpriorref03_Age.j1, if_neg (by simp), last_if _ _ _ _ (by omega) (by omega)]
        · rw [if_neg m2, show bornI (y, m, d) z = (m, d) from if_neg (fun h => m2 h.1), lexpriorref03_Age.j1, if_neg (by simp), last_if _ _ _ _ (by omega) (by omega)]
    · rw [show (if 1 ≤ a ∧ a ≤ 3652059 then ((partsI a).1, (partsI a).2.1, (partsI a).2.2, (0 : Int)) else (0, 0, 0, 31)) = (0, 0, 0, 31) from if_neg g, if_neg (fun x => g x.2)]
      simp only
      rw [show ((31 : Int) != 0) = true from rfl, lexpriorref03_Age.j0, if_pos rfl]
  · rw [show (if 1 ≤ b ∧ b ≤ 3652059 then ((partsI b).1, (partsI b).2.1, (partsI b).2.2, (0 : Int)) else (0, 0, 0, 31)) = (0, 0, 0, 31) from if_neg h]
    rw [if_neg (show ¬ ((0 : Int), (0 : Int), (0 : Int), (31 : Int)).2.2.2 = 0 by decide), lexpriorref03_Age.j0, if_pos rfl, if_neg (fun x => h x.1)]
end Go.Proofs.YtimohodndbkchaaDoor.P
