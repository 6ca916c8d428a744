/- The document's numbers as texts, and both sides' reading. -/
import Derived.Test.YtimohodndbkchaaDoorCalS
namespace Go.Proofs.YtimohodndbkchaaDoor.P
open Go.RowKit Go.Proofs.YtimohodndbkchaaDoorW.PrintWords Go.Proofs.YtimohodndbkchaaDoorW.PrintLast

theorem digit_byte (n : Nat) : strOfNums [wrap64 (48 + Int.tmod (n : Int) 10) % 256] = ⟨([UInt8.ofNat (48 + n % 10)] : List UInt8).toArray⟩ := by
  have e : wrap64 (48 + Int.tmod (n : Int) 10) % 256 = ((48 + n % 10 : Nat) : Int) := by
    rw [Int.tmod_eq_emod_of_nonneg (by omega), w64 _ (by omega) (by omega)]
    omega
  rw [e]
  rfl
theorem digits_f (w : Nat) : ∀ (k n : Nat), w ≤ 100 → n < 9223372036854775808 → lexpriorref03_digits.f (k + w + 1) n w = some ⟨(padL n w).toArray⟩ := by
  induction w with
  | zero => intro k n _ _; rw [lexpriorref03_digits.f, if_pos (by simp)]; rfl
  | succ w ih =>
    intro k n hw hn
    rw [show k + (w + 1) + 1 = k + w + 1 + 1 from by omega, lexpriorref03_digits.f, if_neg (by omega), Int.tdiv_eq_ediv_of_nonneg (by omega), w64 _ (by omega) (by omega), w64 _ (by omega) (by omega)]
    rw [show ((w + 1 : Nat) : Int) - 1 = (w : Int) from by omega, show ((n : Int) / 10) = ((n / 10 : Nat) : Int) from by omega, ih k (n / 10) (by omega) (by omega)]
    simp only [Option.bind_some]
    rw [digit_byte, ba_size, ba_size, padL_length, if_pos (by simp; omega), ba_append, padL]
def printL (y m d : Int) : List UInt8 := padL y.toNat 4 ++ [45] ++ padL m.toNat 2 ++ [45] ++ padL d.toNat 2
theorem printL_length (y m d : Int) : (printL y m d).length = 10 := by unfold printL; simp [padL_length]
theorem padded_4 (k : Nat) (y : Int) (h0 : 0 ≤ y) (h1 : y ≤ 9999) : calendar_padded.f (k + 12) y 4 = some ⟨(padL y.toNat 4).toArray⟩ := by
  have := padded_f k 3 y.toNat (by omega) (by omega)
  rw [show ((y.toNat : Nat) : Int) = y from by omega] at this
  exact this
theorem padded_2 (k : Nat) (y : Int) (h0 : 0 ≤ y) (h1 : y ≤ 99) : calendar_padded.f (k + 12) y 2 = some ⟨(padL y.toNat 2).toArray⟩ := by
  have := padded_f k 1 y.toNat (by omega) (by omega)
  rw [show ((y.toNat : Nat) : Int) = y from by omega] at this
  exact this
theorem digits_4 (k : Nat) (y : Int) (h0 : 0 ≤ y) (h1 : y ≤ 9999) : lexpriorref03_digits.f (k + 12) y 4 = some ⟨(padL y.toNat 4).toArray⟩ := by
  have := digits_f 4 (k + 7) y.toNat (by omega) (by omega)
  rw [show ((y.toNat : Nat) : Int) = y from by omega] at this
  exact this
theorem digits_2 (k : Nat) (y : Int) (h0 : 0 ≤ y) (h1 : y ≤ 99) : lexpriorref03_digits.f (k + 12) y 2 = some ⟨(padL y.toNat 2).toArray⟩ := by
  have := digits_f 2 (k + 9) y.toNat (by omega) (by omega)
  rw [show ((y.toNat : Nat) : Int) = y from by omega] at this
  exact this
theorem ba_dash : (⟨#[45]⟩ : ByteArray) = ⟨([45] : List UInt8).toArray⟩ := rfl
theorem Print_f (k : Nat) (d : Int) : calendar_Print.f (k + 12) d = some (if isDay d then (⟨(printL (partsI d).1 (partsI d).2.1 (partsI d).2.2).toArray⟩, 0) else (⟨#[]⟩, 31)) := by
  unfold calendar_Print.f calendar_parts.f
  rw [isDay_f]
  simp only [Option.bind_some]
  by_cases h : isDay d
  · have hp := parts_fits d h
    have hd := days_fits (partsI d).1 (partsI d).2.1
    rw [if_pos (decide_eq_true h), if_pos h, if_pos h]
    simp only [Option.bind_some]
    rw [padded_4 k _ (by omega) (by omega), padded_2 k _ (by omega) (by omega), padded_2 k _ (by omega) (by omega)]
    simp only [Option.bind_some, ba_append, ba_size, List.length_append, padL_length]
    rw [if_pos (by simp), if_pos (by simp), if_pos (by simp), if_pos (by simp)]
    rfl
  · rw [if_neg (by simpa [isDay] using h), if_neg h]
theorem rPrint_f (k : Nat) (d : Int) : lexpriorref03_Print.f (k + 30) d = some (if isDay d then (⟨(printL (partsI d).1 (partsI d).2.1 (partsI d).2.2).toArray⟩, 0) else (⟨#[]⟩, 31)) := by
  unfold lexpriorref03_Print.f
  rw [rParts_f]
  simp only [Option.bind_some]
  by_cases h : isDay d
  · have hp := parts_fits d h
    have hd := days_fits (partsI d).1 (partsI d).2.1
    rw [if_pos h, if_pos h, if_pos rfl]
    simp only
    rw [show k + 30 = k + 18 + 12 from rfl, digits_4 (k + 18) _ (by omega) (by omega), digits_2 (k + 18) _ (by omega) (by omega), digits_2 (k + 18) _ (by omega) (by omega)]
    simp only [Option.bind_some, ba_append, ba_size, List.length_append, padL_length]
    rw [if_pos (by simp), if_pos (by simp), if_pos (by simp), if_pos (by simp)]
    rfl
  · rw [if_neg h, if_neg h, if_neg (by simp)]

/-! reading -/
def numI (s : ByteArray) (a : Nat) : Nat → Int
  | 0 => 0
  | n + 1 => 10 * numI s a n + (bt s (a + n : Nat) - 48)
def digB (s : ByteArray) (a : Nat) (n : Nat) : Bool := (List.range n).all fun i => decide (48 ≤ bt s (a + i : Nat) ∧ bt s (a + i : Nat) ≤ 57)
theorem pst_num (s : ByteArray) : pst s 10 = (numI s 0 4, numI s 5 2, numI s 8 2) := by
  simp [pst, numI]
theorem numI_fits (s : ByteArray) (a n : Nat) (h : ∀ i, i < n → 48 ≤ bt s (a + i : Nat) ∧ bt s (a + i : Nat) ≤ 57) : 0 ≤ numI s a n ∧ numI s a n < 10 ^ n := by
  induction n with
  | zero => simp [numI]
  | succ n ih =>
    have x := ih (fun i hi => h i (by omega))
    have y := h n (by omega)
    rw [numI, Int.pow_succ]
    omega
abbrev isDig (s : ByteArray) (i : Nat) : Prop := 48 ≤ bt s (i : Nat) ∧ bt s (i : Nat) ≤ 57
theorem number_l (k : Nat) (s t : ByteArray) (a n : Nat) (hn : n ≤ 10) (ht : t.size = n) (hb : ∀ i : Nat, i < n → bt t i = bt s (a + i : Nat)) :
    ∀ (j i : Nat), i + j = n → (∀ u, u < i → isDig s (a + u)) → ((∀ u, u < n → isDig s (a + u)) ∧ lexpriorref03_number.l0 (k + j + 1) t (numI s a i) i = some (numI s a n)) ∨ (¬ (∀ u, u < n → isDig s (a + u)) ∧ lexpriorref03_number.l0 (k + j + 1) t (numI s a i) i = some (-1)) := by
  intro j
  induction j with
  | zero =>
    intro i e h
    obtain rfl : i = n := by omega
    exact .inl ⟨h, by rw [lexpriorref03_number.l0, if_neg (by omega)]⟩
  | succ j ih =>
    intro i e h
    have hx := hb i (by omega)
    rw [show k + (j + 1) + 1 = k + j + 1 + 1 from by omega, lexpriorref03_number.l0, if_pos (by omega), if_pos (by omega), hx]
    by_cases lo : bt s (a + i : Nat) < 48
    · exact .inr ⟨fun x => by have := (x i (by omega)).1; omega, by rw [if_pos lo]⟩
    · by_cases hi : bt s (a + i : Nat) > 57
      · exact .inr ⟨fun x => by have := (x i (by omega)).2; omega, by rw [if_neg lo, if_pos hi]⟩
      · have f := numI_fits s a i (fun u hu => h u hu)
        have p : (10 : Int) ^ i ≤ 10000000000 := by
          have : (10 : Nat) ^ i ≤ 10 ^ 10 := Nat.pow_le_pow_right (by decide) (by omega)
          have e : ((10 ^ i : Nat) : Int) = (10 : Int) ^ i := by simp
          omega
        rw [if_neg lo, if_neg hi, w64 (numI s a i * 10) (by omega) (by omega), w64 (numI s a i * 10 + _) (by omega) (by omega), w64 ((i : Int) + 1) (by omega) (by omega)]
        rw [show numI s a i * 10 + (bt s (a + i : Nat) - 48) % 256 = numI s a (i + 1) from by rw [numI]; omega, show (i : Int) + 1 = ((i + 1 : Nat) : Int) from by omega]
        refine ih (i + 1) (by omega) (fun u hu => ?_)
        by_cases e : u = i
        · subst e; exact ⟨by omega, by omega⟩
        · exact h u (by omega)
theorem number_f (k : Nat) (s t : ByteArray) (a n : Nat) (hn : n ≤ 10) (ht : t.size = n) (hb : ∀ i : Nat, i < n → bt t i = bt s (a + i : Nat)) :
    ((∀ u, u < n → isDig s (a + u)) ∧ lexpriorref03_number.f (k + 12) t = some (numI s a n)) ∨ (¬ (∀ u, u < n → isDig s (a + u)) ∧ lexpriorref03_number.f (k + 12) t = some (-1)) := by
  have := number_l (k + 11 - n) s t a n hn ht hb n 0 (by omega) (fun u hu => absurd hu (Nat.not_lt_zero u))
  rw [show k + 11 - n + n + 1 = k + 12 from by omega] at this
  exact this
theorem bt_extract (s : ByteArray) (a b : Nat) (hb : b ≤ s.size) (i : Nat) (h : i < b - a) : bt (s.extract a b) i = bt s (a + i : Nat) := by
  unfold bt
  simp only [Int.toNat_natCast]
  rw [dif_pos (show i < (s.extract a b).size by rw [ByteArray.size_extract]; omega), dif_pos (show a + i < s.size by omega), ByteArray.getElem_extract]
end Go.Proofs.YtimohodndbkchaaDoor.P
