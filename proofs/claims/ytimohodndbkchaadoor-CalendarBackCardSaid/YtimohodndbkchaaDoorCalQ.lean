/- The document's calendar: the same whole-number functions; a day's parts are its only parts. -/
import Derived.Test.YtimohodndbkchaaDoorCalP
namespace Go.Proofs.YtimohodndbkchaaDoor.P
open Go.RowKit Go.Proofs.YtimohodndbkchaaDoorW.PrintWords Go.Proofs.YtimohodndbkchaaDoorW.PrintLast

theorem of_lt (y m d y' m' d' : Int) (h : isD y m d) (h' : isD y' m' d') (hlt : y < y' ∨ (y = y' ∧ m < m') ∨ (y = y' ∧ m = m' ∧ d < d')) : ofI y m d < ofI y' m' d' := by
  rcases hlt with a | ⟨rfl, a⟩ | ⟨rfl, rfl, a⟩
  · have p := (of_in y m d h).2
    have q := (of_in y' m' d' h').1
    have r := ahead_mono (y + 1) y' (by omega)
    omega
  · have p := cum_mono y (m + 1) m' (by have := h.1.2.2.1; omega) (by omega) (by have := h'.1.2.2.2; omega)
    rw [cum_succ y m h.1.2.2.1 h.1.2.2.2] at p
    have q := h.2.2
    have r := h'.2.1
    unfold ofI
    omega
  · unfold ofI; omega
theorem of_inj (y m d y' m' d' : Int) (h : isD y m d) (h' : isD y' m' d') (e : ofI y m d = ofI y' m' d') : y = y' ∧ m = m' ∧ d = d' := by
  have a := of_lt y m d y' m' d' h h'
  have b := of_lt y' m' d' y m d h' h
  by_cases c : y = y' ∧ m = m' ∧ d = d'
  · exact c
  · exfalso
    have : (y < y' ∨ (y = y' ∧ m < m') ∨ (y = y' ∧ m = m' ∧ d < d')) ∨ (y' < y ∨ (y' = y ∧ m' < m) ∨ (y' = y ∧ m' = m ∧ d' < d)) := by omega
    rcases this with x | x
    · have := a x; omega
    · have := b x; omega
theorem of_day (y m d : Int) (h : isD y m d) : 1 ≤ ofI y m d ∧ ofI y m d ≤ 3652059 := by
  have a := of_in y m d h
  have b := ahead_mono 1 y h.1.1
  have c := ahead_mono (y + 1) 10000 (by have := h.1.2.1; omega)
  rw [show aheadI 1 = 0 from by decide] at b
  rw [show aheadI 10000 = 3652059 from by decide] at c
  omega
theorem parts_inv (y m d : Int) (h : isD y m d) : partsI (ofI y m d) = (y, m, d) := by
  have a := of_day y m d h
  have b := parts_of (ofI y m d) a.1 a.2
  have c := of_inj _ _ _ _ _ _ b.1 h b.2
  exact Prod.ext c.1 (Prod.ext c.2.1 c.2.2)
theorem parts_case (d : Int) (h0 : 1 ≤ d) (h1 : d ≤ 3652059) : ∃ y m k, partsI d = (y, m, k) ∧ isD y m k ∧ ofI y m k = d := by
  have := parts_of d h0 h1
  exact ⟨_, _, _, rfl, this.1, this.2⟩

/-! the document's -/
theorem rleap_f (y : Int) (h : 0 ≤ y) : lexpriorref03_leap.f y = some (leapB y) := leap_f y h
theorem rdays_f (y m : Int) (h : 0 ≤ y) : lexpriorref03_days.f y m = some (daysI y m) := by
  unfold lexpriorref03_days.f daysI leapI
  rw [rleap_f y h]
  by_cases a : m = 2
  · rw [if_pos a, if_pos a]
    simp only [Option.bind_some]
    cases leapB y <;> rfl
  · rw [if_neg a, if_neg a]
    by_cases b : m = 4
    · simp [b]
    · by_cases c : m = 6
      · simp [c]
      · by_cases d : m = 9
        · simp [d]
        · by_cases e : m = 11
          · simp [e]
          · simp [b, c, d, e]
theorem rDays_f (y m : Int) : lexpriorref03_Days.f y m = some (if inYM y m then (daysI y m, 0) else (0, 31)) := by
  unfold lexpriorref03_Days.f
  by_cases a : y < 1
  · rw [if_pos a, if_neg (fun h => by have := h.1; omega)]
  · rw [if_neg a]
    by_cases b : y > 9999
    · rw [if_pos b, if_neg (fun h => by have := h.2.1; omega)]
    · rw [if_neg b]
      by_cases c : m < 1
      · rw [if_pos c, if_neg (fun h => by have := h.2.2.1; omega)]
      · rw [if_neg c]
        by_cases d : m > 12
        · rw [if_pos d, if_neg (fun h => by have := h.2.2.2; omega)]
        · rw [if_neg d, if_pos ⟨by omega, by omega, by omega, by omega⟩, rdays_f y m (by omega)]
          rfl
theorem rahead_f (y : Int) (h : 1 ≤ y) (h1 : y ≤ 20000) : lexpriorref03_ahead.f y = some (aheadI y) := by
  unfold lexpriorref03_ahead.f aheadI
  simp (disch := omega) only [w64, Int.tdiv_eq_ediv_of_nonneg]
theorem ahead_fits (y : Int) (h : 1 ≤ y) (h1 : y ≤ 20000) : 0 ≤ aheadI y ∧ aheadI y ≤ 7400000 := by unfold aheadI; omega
theorem cum_fits (y m : Int) (h0 : 1 ≤ m) (h1 : m ≤ 13) : 0 ≤ cumI y m ∧ cumI y m ≤ 366 := by
  have := leapI_bit y
  unfold cumI
  split <;> omega
/-- the document's sum over the months -/
theorem rOf_l (k : Nat) (y m : Int) (hy : 1 ≤ y) (h1 : m ≤ 12) : ∀ (n : Nat) (i : Int) (x : Int), m - i = n → 1 ≤ i → 0 ≤ x → x ≤ 8000000 → lexpriorref03_Of.l0 (n + 1 + k) y m (x + cumI y i) i = some (x + cumI y m, 0)
  | 0, i, x, e, hi, hx, hx1 => by
    obtain rfl : i = m := by omega
    rw [show 0 + 1 + k = k + 1 from by omega, lexpriorref03_Of.l0, if_neg (by omega)]
  | n + 1, i, x, e, hi, hx, hx1 => by
    have a := cum_fits y i hi (by omega)
    have b := days_fits y i
    rw [show n + 1 + 1 + k = n + 1 + k + 1 from by omega, lexpriorref03_Of.l0, if_pos (by omega), rdays_f y i (by omega)]
    simp only [Option.bind_some]
    rw [w64 _ (by omega) (by omega), w64 _ (by omega) (by omega), Int.add_assoc x, ← cum_succ y i hi (by omega)]
    exact rOf_l k y m hy h1 n (i + 1) x (by omega) (by omega) hx hx1
theorem rOf_f (k : Nat) (y m d : Int) : lexpriorref03_Of.f (k + 14) y m d = some (if isD y m d then (ofI y m d, 0) else (0, 31)) := by
  unfold lexpriorref03_Of.f
  rw [rDays_f]
  simp only [Option.bind_some]
  have no : lexpriorref03_Of.j0 (k + 14) y m d true = some (0, 31) := by rw [lexpriorref03_Of.j0, if_pos rfl]
  by_cases h : inYM y m
  · rw [if_pos h, if_pos rfl]
    obtain ⟨y0, y1, m0, m1⟩ := id h
    by_cases a : d < 1
    · rw [if_pos a, no, if_neg (fun h => by have := h.2.1; omega)]
    · rw [if_neg a]
      by_cases b : d > daysI y m
      · rw [show decide (d > daysI y m) = true from decide_eq_true b, no, if_neg (fun h => by have := h.2.2; omega)]
      · rw [show decide (d > daysI y m) = false from decide_eq_false b, lexpriorref03_Of.j0, if_neg (by decide), rahead_f y y0 (by omega), if_pos ⟨h, by omega, by omega⟩]
        simp only [Option.bind_some]
        have f := ahead_fits y y0 (by omega)
        have g := days_fits y m
        rw [w64 _ (by omega) (by omega)]
        have := rOf_l (k + 12 - (m - 1).toNat) y m y0 m1 (m - 1).toNat 1 (aheadI y + d) (by omega) (by omega) (by omega) (by omega)
        rw [cum_one, Int.add_zero, show (m - 1).toNat + 1 + (k + 12 - (m - 1).toNat) = k + 13 from by omega] at this
        rw [this]
        unfold ofI
        rw [show aheadI y + d + cumI y m = aheadI y + cumI y m + d from by omega]
  · rw [if_neg h, if_neg (by simp), no, if_neg (fun x => h x.1)]
/-- the document's search for the year -/
theorem rParts_y (k : Nat) (d y : Int) (hy : 1 ≤ y) (hy1 : y ≤ 9999) (h0 : aheadI y < d) (h1 : d ≤ aheadI (y + 1)) :
    ∀ (j : Nat), j ≤ 13 → ∀ (c : Int), 1 ≤ c → c ≤ y → y < c + 2 ^ (j + 1) → lexpriorref03_Parts.l0 (k + j + 2) d c (2 ^ j) = lexpriorref03_Parts.l0 (k + 1) d y 0 := by
  intro j
  induction j with
  | zero =>
    intro hj c hc hcy hlt
    have b := ahead_mono (y + 1) (c + 1)
    have a := ahead_mono (c + 1) y
    rw [show k + 0 + 2 = k + 1 + 1 from by omega, lexpriorref03_Parts.l0, if_pos (by decide), w64 _ (by simp; omega) (by simp; omega)]
    simp only [Int.pow_zero] at hlt ⊢
    rw [show wrap64 (Int.tdiv 1 2) = 0 from by decide +kernel]
    by_cases g : c + 1 ≤ 9999
    · rw [if_pos g, rahead_f _ (by omega) (by omega)]
      simp only [Option.bind_some]
      by_cases h : c + 1 ≤ y
      · rw [if_pos (by have := a h; omega)]
        obtain rfl : c + 1 = y := by omega
        rfl
      · rw [if_neg (by have := b (by omega); omega)]
        obtain rfl : c = y := by omega
        rfl
    · rw [if_neg g]
      obtain rfl : c = y := by omega
      rfl
  | succ j ih =>
    intro hj c hc hcy hlt
    have p : (2 : Int) ^ (j + 1) = 2 * 2 ^ j := by rw [Int.pow_succ]; omega
    have p2 : (2 : Int) ^ (j + 1 + 1) = 2 * 2 ^ (j + 1) := by rw [Int.pow_succ]; omega
    have q : (1 : Int) ≤ 2 ^ j := by have := Int.pow_pos (n := 2) (m := j) (by decide); omega
    have q2 : (2 : Int) ^ j ≤ 4096 := by
      have : (2 : Nat) ^ j ≤ 2 ^ 12 := Nat.pow_le_pow_right (by decide) (by omega)
      have e : ((2 ^ j : Nat) : Int) = (2 : Int) ^ j := by simp
      omega
    have b := ahead_mono (y + 1) (c + 2 ^ (j + 1))
    have a := ahead_mono (c + 2 ^ (j + 1)) y
    rw [show k + (j + 1) + 2 = (k + j + 2) + 1 from by omega, lexpriorref03_Parts.l0, if_pos (by omega), w64 _ (by omega) (by omega)]
    rw [show wrap64 (Int.tdiv ((2 : Int) ^ (j + 1)) 2) = 2 ^ j from by rw [Int.tdiv_eq_ediv_of_nonneg (by omega), w64 _ (by omega) (by omega)]; omega]
    by_cases g : c + 2 ^ (j + 1) ≤ 9999
    · rw [if_pos g, rahead_f _ (by omega) (by omega)]
      simp only [Option.bind_some]
      by_cases h : c + 2 ^ (j + 1) ≤ y
      · rw [if_pos (by have := a h; omega)]
        exact ih (by omega) _ (by omega) h (by omega)
      · rw [if_neg (by have := b (by omega); omega)]
        exact ih (by omega) _ hc hcy (by omega)
    · rw [if_neg g]
      exact ih (by omega) _ hc hcy (by omega)
/-- .. and for the month -/
theorem rParts_m (k : Nat) (y m d : Int) (h : isD y m d) : ∀ (n : Nat) (i : Int), m - i = n → 1 ≤ i → lexpriorref03_Parts.l1 (k + n + 1) (cumI y m - cumI y i + d) y i = some (y, m, d, 0) := by
  obtain ⟨⟨y0, y1, m0, m1⟩, d0, d1⟩ := id h
  intro n
  induction n with
  | zero =>
    intro i e hi
    obtain rfl : i = m := by omega
    rw [lexpriorref03_Parts.l1, rdays_f y i (by omega)]
    simp only [Option.bind_some]
    rw [if_neg (by omega), Int.sub_self, Int.zero_add]
  | succ n ih =>
    intro i e hi
    have a := cum_fits y i hi (by omega)
    have b := days_fits y i
    have c := cum_mono y (i + 1) m (by omega) (by omega) (by omega)
    have f := cum_fits y m m0 (by omega)
    have g := days_fits y m
    have s := cum_succ y i hi (by omega)
    rw [show k + (n + 1) + 1 = k + n + 1 + 1 from by omega, lexpriorref03_Parts.l1, rdays_f y i (by omega)]
    simp only [Option.bind_some]
    rw [if_pos (by omega), w64 _ (by omega) (by omega), w64 _ (by omega) (by omega), show cumI y m - cumI y i + d - daysI y i = cumI y m - cumI y (i + 1) + d from by omega]
    exact ih (i + 1) (by omega) (by omega)
theorem rParts_f (k : Nat) (d : Int) : lexpriorref03_Parts.f (k + 30) d = some (if 1 ≤ d ∧ d ≤ 3652059 then ((partsI d).1, (partsI d).2.1, (partsI d).2.2, 0) else (0, 0, 0, 31)) := by
  unfold lexpriorref03_Parts.f
  have no : lexpriorref03_Parts.j0 (k + 30) d true = some (0, 0, 0, 31) := by rw [lexpriorref03_Parts.j0, if_pos rfl]
  by_cases a : d < 1
  · rw [if_pos a, no, if_neg (by omega)]
  · rw [if_neg a]
    by_cases b : d > 3652059
    · rw [show decide (d > 3652059) = true from decide_eq_true b, no, if_neg (by omega)]
    · rw [show decide (d > 3652059) = false from decide_eq_false b, lexpriorref03_Parts.j0, if_neg (by decide), if_pos (by omega)]
      obtain ⟨y, m, x, hp, hd, rfl⟩ := parts_case d (by omega) (by omega)
      obtain ⟨⟨y0, y1, m0, m1⟩, d0, d1⟩ := id hd
      rw [hp]
      have i := of_in y m x hd
      have f := ahead_fits y y0 (by omega)
      have g := cum_fits y m m0 (by omega)
      have g2 := days_fits y m
      rw [show k + 29 = (k + 14) + 13 + 2 from by omega, show (8192 : Int) = 2 ^ 13 from by decide, rParts_y (k + 14) _ y y0 y1 i.1 i.2 13 (by omega) 1 (by omega) y0 (by simp; omega), lexpriorref03_Parts.l0, if_neg (by decide), rahead_f y y0 (by omega)]
      simp only [Option.bind_some]
      have e : ofI y m x - aheadI y = cumI y m - cumI y 1 + x := by rw [cum_one]; unfold ofI; omega
      rw [e, cum_one, w64 _ (by omega) (by omega), ← cum_one y, show k + 14 = (k + 13 - (m - 1).toNat) + (m - 1).toNat + 1 from by omega]
      exact rParts_m _ y m x hd (m - 1).toNat 1 (by omega) (by omega)
end Go.Proofs.YtimohodndbkchaaDoor.P
