/- The calendar's plain laws: the program's functions and the document's are the same whole-number functions. -/
import Derived.Test.YtimohodndbkchaaDoorPx
namespace Go.Proofs.YtimohodndbkchaaDoor.P
open Go.RowKit Go.Proofs.YtimohodndbkchaaDoorW.PrintWords Go.Proofs.YtimohodndbkchaaDoorW.PrintLast

theorem w64 (x : Int) (h0 : -9223372036854775808 ≤ x) (h1 : x ≤ 9223372036854775807) : wrap64 x = x := by unfold wrap64; omega
def leapB (y : Int) : Bool := y % 4 == 0 && (y % 100 != 0 || y % 400 == 0)
def leapI (y : Int) : Int := if leapB y = true then 1 else 0
def daysI (y m : Int) : Int := if m = 2 then 28 + leapI y else if m = 4 ∨ m = 6 ∨ m = 9 ∨ m = 11 then 30 else 31
def aheadI (y : Int) : Int := (y - 1) * 365 + (y - 1) / 4 - (y - 1) / 100 + (y - 1) / 400
def cumI (y m : Int) : Int := if m ≤ 2 then 31 * (m - 1) else (153 * m - 457) / 5 + 59 + leapI y
def ofI (y m d : Int) : Int := aheadI y + cumI y m + d
def inYM (y m : Int) : Prop := 1 ≤ y ∧ y ≤ 9999 ∧ 1 ≤ m ∧ m ≤ 12
instance (y m : Int) : Decidable (inYM y m) := by unfold inYM; infer_instance
def isD (y m d : Int) : Prop := inYM y m ∧ 1 ≤ d ∧ d ≤ daysI y m
instance (y m d : Int) : Decidable (isD y m d) := by unfold isD; infer_instance

theorem leapI_step (y : Int) : leapI y = y / 4 - (y - 1) / 4 - (y / 100 - (y - 1) / 100) + (y / 400 - (y - 1) / 400) := by
  unfold leapI leapB
  simp only [Bool.and_eq_true, Bool.or_eq_true, beq_iff_eq, bne_iff_ne, ne_eq]
  split <;> omega
theorem leapI_bit (y : Int) : leapI y = 0 ∨ leapI y = 1 := by unfold leapI; split <;> simp
theorem ahead_succ (y : Int) : aheadI (y + 1) = aheadI y + 365 + leapI y := by
  rw [leapI_step]; unfold aheadI; omega
theorem ahead_mono (a b : Int) (h : a ≤ b) : aheadI a ≤ aheadI b := by unfold aheadI; omega
theorem days_fits (y m : Int) : 28 ≤ daysI y m ∧ daysI y m ≤ 31 := by
  have := leapI_bit y
  unfold daysI
  split
  · omega
  · split <;> omega
theorem months {P : Int → Prop} (h : P 1 ∧ P 2 ∧ P 3 ∧ P 4 ∧ P 5 ∧ P 6 ∧ P 7 ∧ P 8 ∧ P 9 ∧ P 10 ∧ P 11 ∧ P 12) (m : Int) (h0 : 1 ≤ m) (h1 : m ≤ 12) : P m := by
  have : m = 1 ∨ m = 2 ∨ m = 3 ∨ m = 4 ∨ m = 5 ∨ m = 6 ∨ m = 7 ∨ m = 8 ∨ m = 9 ∨ m = 10 ∨ m = 11 ∨ m = 12 := by omega
  obtain ⟨a, b, c, d, e, f, g, i, j, k, l, n⟩ := h
  rcases this with rfl | rfl | rfl | rfl | rfl | rfl | rfl | rfl | rfl | rfl | rfl | rfl <;> assumption
theorem cum_succ (y m : Int) (h0 : 1 ≤ m) (h1 : m ≤ 12) : cumI y (m + 1) = cumI y m + daysI y m := by
  refine months (P := fun m => cumI y (m + 1) = cumI y m + daysI y m) ?_ m h0 h1
  have := leapI_bit y
  unfold cumI daysI
  refine ⟨?_, ?_, ?_, ?_, ?_, ?_, ?_, ?_, ?_, ?_, ?_, ?_⟩ <;> simp <;> omega
theorem cum_one (y : Int) : cumI y 1 = 0 := by unfold cumI; simp
theorem cum_end (y : Int) : cumI y 13 = 365 + leapI y := by unfold cumI; simp
theorem cum_mono (y a b : Int) (h0 : 1 ≤ a) (h : a ≤ b) (h1 : b ≤ 13) : cumI y a ≤ cumI y b := by
  have := leapI_bit y
  unfold cumI
  split <;> split <;> omega
theorem of_in (y m d : Int) (h : isD y m d) : aheadI y < ofI y m d ∧ ofI y m d ≤ aheadI (y + 1) := by
  obtain ⟨⟨_, _, m0, m1⟩, d0, d1⟩ := h
  have a := cum_mono y 1 m (by omega) m0 (by omega)
  have b := cum_mono y (m + 1) 13 (by omega) (by omega) (by omega)
  rw [cum_one] at a
  rw [cum_end, cum_succ y m m0 m1] at b
  have c := ahead_succ y
  unfold ofI
  omega

/-! the program's -/
theorem leap_f (y : Int) (h : 0 ≤ y) : calendar_leap.f y = some (leapB y) := by
  unfold calendar_leap.f leapB
  simp (disch := omega) only [Int.tmod_eq_emod_of_nonneg]
  by_cases a : y % 4 = 0
  · by_cases b : y % 100 = 0
    · rw [if_pos a, if_pos b]; simp [a, b]
    · rw [if_pos a, if_neg b]; simp [a, b]
  · rw [if_neg a]; simp [a]
theorem rd_len (m : Int) (h0 : 1 ≤ m) (h1 : m ≤ 12) : rd lenT (m - 1) = if m = 2 then 28 else if m = 4 ∨ m = 6 ∨ m = 9 ∨ m = 11 then 30 else 31 :=
  months (P := fun m => rd lenT (m - 1) = if m = 2 then 28 else if m = 4 ∨ m = 6 ∨ m = 9 ∨ m = 11 then 30 else 31) (by decide) m h0 h1
theorem length_f (y m : Int) (hy : 0 ≤ y) (h0 : 1 ≤ m) (h1 : m ≤ 12) : calendar_length.f y m = some (daysI y m) := by
  unfold calendar_length.f
  rw [leap_f y hy]
  simp only [Option.bind_some]
  rw [if_pos ⟨h0, h1⟩, rd_len m h0 h1]
  unfold daysI leapI
  by_cases a : m = 2
  · by_cases b : leapB y = true
    · simp [a, b]
    · simp [a, b]
  · simp [a]
theorem hasMonth_f (y m d : Int) : calendar_civil_hasMonth.f y m d = some (decide (inYM y m)) := by
  unfold calendar_civil_hasMonth.f inYM
  split
  · split
    · split
      · congr 1
        apply decide_eq_decide.2
        omega
      · congr 1
        exact (decide_eq_false (by omega)).symm
    · congr 1
      exact (decide_eq_false (by omega)).symm
  · congr 1
    exact (decide_eq_false (by omega)).symm
theorem ok_f (y m d : Int) : calendar_civil_ok.f y m d = some (decide (isD y m d)) := by
  unfold calendar_civil_ok.f isD
  rw [hasMonth_f]
  simp only [Option.bind_some]
  by_cases h : inYM y m
  · rw [if_pos (decide_eq_true h)]
    obtain ⟨y0, y1, m0, m1⟩ := id h
    rw [length_f y m (by omega) m0 m1]
    by_cases h2 : d ≥ 1
    · rw [if_pos h2]
      simp only [Option.bind_some]
      congr 1
      apply decide_eq_decide.2
      exact ⟨fun x => ⟨h, h2, x⟩, fun x => x.2.2⟩
    · rw [if_neg h2]
      congr 1
      exact (decide_eq_false (fun x => h2 x.2.1)).symm
  · rw [if_neg (by simp [h])]
    congr 1
    exact (decide_eq_false (fun x => h x.1)).symm
/-- the day's number as the program reckons it -/
theorem date_f (y m d : Int) (hy : 1 ≤ y) (hy1 : y ≤ 9999) (h0 : 1 ≤ m) (h1 : m ≤ 12) (d0 : 0 ≤ d) (d1 : d ≤ 31) : calendar_civil_date.f y m d = some (ofI y m d) := by
  unfold calendar_civil_date.f
  have q := leapI_step y
  by_cases h : m ≤ 2
  · rw [if_pos h]
    simp (disch := omega) only [w64, Int.tdiv_eq_ediv_of_nonneg]
    unfold ofI aheadI cumI
    rw [if_pos h]
    congr 1
    omega
  · rw [if_neg h]
    simp (disch := omega) only [w64, Int.tdiv_eq_ediv_of_nonneg]
    unfold ofI aheadI cumI
    rw [if_neg h]
    congr 1
    omega
theorem Of_f (y m d : Int) : calendar_Of.f y m d = some (if isD y m d then (ofI y m d, 0) else (0, 31)) := by
  unfold calendar_Of.f
  rw [ok_f]
  simp only [Option.bind_some]
  by_cases h : isD y m d
  · obtain ⟨⟨y0, y1, m0, m1⟩, d0, d1⟩ := id h
    have := days_fits y m
    rw [if_pos (decide_eq_true h), date_f y m d y0 y1 m0 m1 (by omega) (by omega), if_pos h]
    rfl
  · rw [if_neg (by simp [h]), if_neg h]
theorem Days_f (y m : Int) : calendar_Days.f y m = some (if inYM y m then (daysI y m, 0) else (0, 31)) := by
  unfold calendar_Days.f
  rw [hasMonth_f]
  simp only [Option.bind_some]
  by_cases h : inYM y m
  · obtain ⟨y0, y1, m0, m1⟩ := id h
    rw [if_pos (decide_eq_true h), length_f y m (by omega) m0 m1, if_pos h]
    rfl
  · rw [if_neg (by simp [h]), if_neg h]
theorem isDay_f (d : Int) : calendar_isDay.f d = some (decide (1 ≤ d ∧ d ≤ 3652059)) := by
  unfold calendar_isDay.f
  split
  · congr 1; apply decide_eq_decide.2; omega
  · congr 1; exact (decide_eq_false (by omega)).symm
theorem Parts_f (d : Int) : calendar_Parts.f d = some (if 1 ≤ d ∧ d ≤ 3652059 then ((partsI d).1, (partsI d).2.1, (partsI d).2.2, 0) else (0, 0, 0, 31)) := by
  unfold calendar_Parts.f calendar_parts.f
  rw [isDay_f]
  simp only [Option.bind_some]
  by_cases h : 1 ≤ d ∧ d ≤ 3652059
  · rw [if_pos (decide_eq_true h), if_pos h, if_pos h]; rfl
  · rw [if_neg (by simp [h]), if_neg h]
theorem ofI_late (y m d : Int) (h : 2 < m) : ofI y m d = 365 * y + y / 4 - y / 100 + y / 400 + (153 * m - 457) / 5 + d - 306 := by
  have q := leapI_step y
  unfold ofI aheadI cumI
  rw [if_neg (by omega)]
  omega
theorem ofI_early (y m d : Int) (h0 : 1 ≤ m) (h : m ≤ 2) : ofI y m d = 365 * (y - 1) + (y - 1) / 4 - (y - 1) / 100 + (y - 1) / 400 + (153 * (m + 12) - 457) / 5 + d - 306 := by
  unfold ofI aheadI cumI
  rw [if_pos h]
  omega
theorem leap_next (c e : Int) (h : c / 4 - c / 100 < (c + 1) / 4 - (c + 1) / 100 ∨ c = 399) : leapI (c + 400 * e + 1) = 1 := by
  unfold leapI leapB
  simp only [Bool.and_eq_true, Bool.or_eq_true, beq_iff_eq, bne_iff_ne, ne_eq]
  rw [if_pos]
  rcases h with h | rfl
  · have : (c + 1) % 4 = 0 ∧ (c + 1) % 100 ≠ 0 := by omega
    omega
  · omega
/-- a day's parts are a day, and its number is the day -/
theorem parts_of (d : Int) (h0 : 1 ≤ d) (h1 : d ≤ 3652059) : isD (partsI d).1 (partsI d).2.1 (partsI d).2.2 ∧ ofI (partsI d).1 (partsI d).2.1 (partsI d).2.2 = d := by
  obtain ⟨e0, e1, i0, i1⟩ := eraI_fits d h0 h1
  obtain ⟨c0, c1, s0, s1⟩ := cyI_fits _ i0 i1
  obtain ⟨m0, m1, k0, k1⟩ := monI_fits _ s0 s1
  have hin : inI d = d + 305 - eraI d * 146097 := rfl
  have hr : restI (inI d) = inI d - (365 * cyI (inI d) + cyI (inI d) / 4 - cyI (inI d) / 100) := rfl
  have hm : monI (restI (inI d)) = (5 * restI (inI d) + 2) / 153 := rfl
  have hd : dayI (restI (inI d)) = restI (inI d) - (153 * monI (restI (inI d)) + 2) / 5 + 1 := rfl
  have hx : inI d < 365 * (cyI (inI d) + 1) + (cyI (inI d) + 1) / 4 - (cyI (inI d) + 1) / 100 ∨ (cyI (inI d) = 399 ∧ inI d = 146096) := by
    obtain ⟨k, hk⟩ := Int.eq_ofNat_of_zero_le i0
    rw [hk] at i1 ⊢
    obtain ⟨_, _, _, x⟩ := cy_fits k (by omega)
    rw [cyI_nat k (by omega)]
    unfold st at x
    have a1 : ((cyN k : Int) + 1) / 4 = (((cyN k + 1) / 4 : Nat) : Int) := by omega
    have a2 : ((cyN k : Int) + 1) / 100 = (((cyN k + 1) / 100 : Nat) : Int) := by omega
    rw [a1, a2]
    omega
  unfold partsI
  generalize dayI (restI (inI d)) = dd at *
  generalize monI (restI (inI d)) = m at *
  generalize restI (inI d) = r at *
  generalize cyI (inI d) = c at *
  generalize inI d = n at *
  generalize eraI d = e at *
  have a4 : (c + 400 * e) / 4 = c / 4 + 100 * e := by omega
  have a100 : (c + 400 * e) / 100 = c / 100 + 4 * e := by omega
  have a400 : (c + 400 * e) / 400 = e := by omega
  by_cases h9 : 9 < m
  · rw [if_pos h9]
    simp only
    have key : ofI (c + 400 * e + 1) (m + 3 - 12) dd = d := by
      rw [ofI_early _ _ _ (by omega) (by omega), show c + 400 * e + 1 - 1 = c + 400 * e from by omega, a4, a100, a400]
      clear a4 a100 a400 hx
      omega
    have hy : c + 400 * e + 1 ≤ 9999 := by
      clear a4 a100 a400 hx key
      by_cases g : c = 399 ∧ e = 24
      · obtain ⟨rfl, rfl⟩ := g
        omega
      · omega
    refine ⟨⟨⟨by omega, hy, by omega, by omega⟩, k0, ?_⟩, key⟩
    have hm2 : m = 10 ∨ m = 11 := by omega
    have q2 := leapI_bit (c + 400 * e + 1)
    unfold daysI
    clear a4 a100 a400 key hy
    rcases hm2 with rfl | rfl
    · simp
      omega
    · simp
      by_cases g : r ≤ 364
      · omega
      · have g2 : r = 365 := by omega
        have := leap_next c e (by clear q2; omega)
        omega
  · rw [if_neg h9]
    simp only
    have key : ofI (c + 400 * e) (m + 3) dd = d := by
      rw [ofI_late _ _ _ (by omega), a4, a100, a400]
      clear a4 a100 a400 hx
      omega
    have hy : 1 ≤ c + 400 * e := by
      clear a4 a100 a400 hx key
      by_cases g : c = 0 ∧ e = 0
      · obtain ⟨rfl, rfl⟩ := g
        omega
      · omega
    refine ⟨⟨⟨hy, by omega, by omega, by omega⟩, k0, ?_⟩, key⟩
    clear a4 a100 a400 hx key hy
    unfold daysI
    rw [if_neg (by omega)]
    have hm2 : m = 0 ∨ m = 1 ∨ m = 2 ∨ m = 3 ∨ m = 4 ∨ m = 5 ∨ m = 6 ∨ m = 7 ∨ m = 8 ∨ m = 9 := by omega
    clear hin hr
    rcases hm2 with rfl | rfl | rfl | rfl | rfl | rfl | rfl | rfl | rfl | rfl <;> simp <;> omega
end Go.Proofs.YtimohodndbkchaaDoor.P
