/- The calendar's reckoning as plain functions on whole numbers. -/
import Derived.Test.YtimohodndbkchaaDoorWMore
import Derived.Lib.Hide
namespace Go.Proofs.YtimohodndbkchaaDoor.P
open Go.RowKit Go.Proofs.YtimohodndbkchaaDoorW.PrintWords Go.Proofs.YtimohodndbkchaaDoorW.PrintLast

/-- days ahead of a year of the cycle of 400, years from March on -/
def st (y : Nat) : Nat := 365 * y + y / 4 - y / 100
def cyN (n : Nat) : Nat := (n - n / 1460 + n / 36524 - n / 146096) / 365
theorem cy_ends : (List.range 400).all (fun y => cyN (st y) == y && cyN (st (y + 1) - (if y = 399 then 0 else 1)) == y) = true := by decide +kernel
theorem num_mono (n : Nat) (h : n < 146096) : n - n / 1460 + n / 36524 - n / 146096 ≤ (n + 1) - (n + 1) / 1460 + (n + 1) / 36524 - (n + 1) / 146096 := by
  have h1 : n / 146096 = 0 := by omega
  have h2 : (n + 1) / 146096 ≤ 1 := by omega
  by_cases e : n = 146095
  · subst e; decide
  · have h3 : (n + 1) / 146096 = 0 := by omega
    rw [h1, h3]
    omega
theorem cy_mono (a b : Nat) (h : a ≤ b) (hb : b ≤ 146096) : cyN a ≤ cyN b := by
  obtain ⟨d, rfl⟩ : ∃ d, b = a + d := ⟨b - a, by omega⟩
  induction d with
  | zero => exact Nat.le_refl _
  | succ d ih =>
    have h1 := ih (by omega) (by omega)
    have h2 := num_mono (a + d) (by omega)
    exact Nat.le_trans h1 (Nat.div_le_div_right h2)
theorem st_succ (y : Nat) : st y < st (y + 1) := by unfold st; omega
theorem cy_of (y n : Nat) (hy : y < 400) (h0 : st y ≤ n) (h1 : n < st (y + 1) ∨ (y = 399 ∧ n ≤ 146096)) (hn : n ≤ 146096) : cyN n = y := by
  have h := List.all_eq_true.1 cy_ends y (List.mem_range.2 hy)
  simp only [Bool.and_eq_true, beq_iff_eq] at h
  have a := cy_mono (st y) n h0 hn
  have hs := st_succ y
  have e400 : st 400 = 146096 := by decide
  by_cases e : y = 399
  · subst e
    have b := cy_mono n 146096 hn (Nat.le_refl _)
    have := h.2
    rw [if_pos rfl] at this
    rw [show st (399 + 1) - 0 = 146096 from by decide] at this
    omega
  · have hle : st (y + 1) ≤ 146096 := by unfold st; omega
    have b := cy_mono n (st (y + 1) - 1) (by omega) (by omega)
    have := h.2
    rw [if_neg e] at this
    omega
theorem cy_has (n : Nat) (hn : n ≤ 146096) : ∃ y, y < 400 ∧ st y ≤ n ∧ (n < st (y + 1) ∨ (y = 399 ∧ n ≤ 146096)) := by
  induction n with
  | zero => exact ⟨0, by omega, by decide, .inl (by decide)⟩
  | succ n ih =>
    obtain ⟨y, h0, h1, h2⟩ := ih (by omega)
    have e400 : st 400 = 146096 := by decide
    rcases h2 with h2 | ⟨rfl, _⟩
    · by_cases hlt : n + 1 < st (y + 1)
      · exact ⟨y, h0, by omega, .inl hlt⟩
      · by_cases e : y = 399
        · subst e; exact ⟨399, h0, by omega, .inr ⟨rfl, hn⟩⟩
        · exact ⟨y + 1, by omega, by omega, .inl (by have := st_succ (y + 1); omega)⟩
    · exact ⟨399, h0, by omega, .inr ⟨rfl, hn⟩⟩
/-- the year of the cycle, and what is left -/
theorem cy_fits (n : Nat) (hn : n ≤ 146096) : cyN n ≤ 399 ∧ st (cyN n) ≤ n ∧ n - st (cyN n) ≤ 365 ∧ (n < st (cyN n + 1) ∨ (cyN n = 399 ∧ n = 146096)) := by
  obtain ⟨y, h0, h1, h2⟩ := cy_has n hn
  have e := cy_of y n h0 h1 h2 hn
  rw [e]
  have e400 : st 400 = 146096 := by decide
  have es : st (y + 1) ≤ st y + 366 := by unfold st; omega
  refine ⟨by omega, h1, ?_, ?_⟩
  · rcases h2 with h2 | ⟨rfl, h2⟩
    · omega
    · have : st 399 = 145731 := by decide
      omega
  · rcases h2 with h2 | ⟨rfl, h2⟩
    · exact .inl h2
    · rcases Nat.lt_or_ge n (st (399 + 1)) with h | h
      · exact .inl h
      · exact .inr ⟨rfl, by rw [show st (399 + 1) = 146096 from by decide] at h; omega⟩

/-! as the code reckons, in whole numbers -/
def cyI (n : Int) : Int := (n - n / 1460 + n / 36524 - n / 146096) / 365
theorem cyI_nat (n : Nat) (hn : n ≤ 146096) : cyI (n : Int) = (cyN n : Nat) := by
  unfold cyI cyN
  have : n / 1460 ≤ n := Nat.div_le_self _ _
  have h2 : n / 146096 ≤ n / 36524 := by omega
  omega
def restI (n : Int) : Int := n - (365 * cyI n + cyI n / 4 - cyI n / 100)
theorem cyI_fits (n : Int) (h0 : 0 ≤ n) (h1 : n ≤ 146096) : 0 ≤ cyI n ∧ cyI n ≤ 399 ∧ 0 ≤ restI n ∧ restI n ≤ 365 := by
  obtain ⟨k, rfl⟩ := Int.eq_ofNat_of_zero_le h0
  obtain ⟨a, b, c, _⟩ := cy_fits k (by omega)
  unfold restI
  rw [cyI_nat k (by omega)]
  unfold st at b c
  omega
def monI (r : Int) : Int := (5 * r + 2) / 153
def dayI (r : Int) : Int := r - (153 * monI r + 2) / 5 + 1
theorem monI_fits (r : Int) (h0 : 0 ≤ r) (h1 : r ≤ 365) : 0 ≤ monI r ∧ monI r ≤ 11 ∧ 1 ≤ dayI r ∧ dayI r ≤ 31 := by
  unfold dayI monI
  omega
def eraI (d : Int) : Int := (d + 305) / 146097
def inI (d : Int) : Int := d + 305 - eraI d * 146097
theorem eraI_fits (d : Int) (h0 : 1 ≤ d) (h1 : d ≤ 3652059) : 0 ≤ eraI d ∧ eraI d ≤ 24 ∧ 0 ≤ inI d ∧ inI d ≤ 146096 := by
  unfold inI eraI
  omega
/-- a day's year, month and day -/
def partsI (d : Int) : Int × Int × Int :=
  if 9 < monI (restI (inI d)) then (cyI (inI d) + 400 * eraI d + 1, monI (restI (inI d)) + 3 - 12, dayI (restI (inI d))) else (cyI (inI d) + 400 * eraI d, monI (restI (inI d)) + 3, dayI (restI (inI d)))
end Go.Proofs.YtimohodndbkchaaDoor.P
