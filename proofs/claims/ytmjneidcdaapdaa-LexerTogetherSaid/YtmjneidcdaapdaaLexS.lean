/- The lexer, plainly: lists that are the same; how long they are. -/
import Derived.Test.YtmjneidcdaapdaaLexR
namespace Go.Proofs.Ytmjneidcdaapdaa.P
open Go.RowKit Go.Proofs.YtmjneidcdaapdaaW.PrintWords Go.Proofs.YtmjneidcdaapdaaW.PrintLast
set_option linter.unusedVariables false
set_option linter.unusedSimpArgs false

theorem scanL_len (s : ByteArray) (n : Nat) : ∀ (p : Nat) (T : List Tk) (R : List ByteArray), T.length ≤ p → R.length ≤ p → p ≤ s.size → (scanL s n p T R).1.length ≤ s.size ∧ (scanL s n p T R).2.1.length ≤ s.size := by
  induction n with
  | zero => intro p T R hT hR hp; exact ⟨by simp only [scanL]; omega, by simp only [scanL]; omega⟩
  | succ n IH =>
    intro p T R hT hR hp
    simp only [scanL]
    by_cases h : p < s.size
    · rw [if_pos h]
      by_cases hr : (nexP s p T R).1 = true
      · rw [if_pos hr]
        obtain ⟨h1, h2, h3, h4, h5, h6⟩ := (nexP_adv T R h).1 hr
        exact IH _ _ _ (by omega) (by omega) h2
      · rw [if_neg hr]; simp
    · rw [if_neg h]; exact ⟨by simp only; omega, by simp only; omega⟩
theorem scanP_len (s : ByteArray) : (scanP s).1.length ≤ 65536 ∧ (scanP s).2.1.length ≤ 65536 := by
  unfold scanP
  by_cases h : 65536 < s.size
  · rw [if_pos h]; simp
  · rw [if_neg h]
    have := scanL_len s (s.size - 0) 0 [] [] (by simp) (by simp) (by omega)
    unfold scanF
    omega
theorem sameT_l0 (l : List Tk) (hl : l.length ≤ 1000000) (d : Nat) : ∀ (k i : Nat), i ≤ l.length → l.length - i = d → d + 1 ≤ k → lexpriorplain_SameTokens.l0 k l l i = some true := by
  induction d with
  | zero =>
    intro k i hi hd hk
    obtain ⟨k, rfl⟩ : ∃ m, k = m + 1 := ⟨k - 1, by omega⟩
    simp only [lexpriorplain_SameTokens.l0]
    rw [if_neg (by omega)]
  | succ d IH =>
    intro k i hi hd hk
    obtain ⟨k, rfl⟩ : ∃ m, k = m + 1 := ⟨k - 1, by omega⟩
    simp only [lexpriorplain_SameTokens.l0, sc64 i (by omega)]
    rw [if_pos (by omega), if_pos (by omega), if_pos (by omega), if_neg (by simp)]
    exact IH k (i + 1) (by omega) (by omega) (by omega)
theorem sameT (l : List Tk) (hl : l.length ≤ 65536) (k : Nat) (hk : 65537 ≤ k) : lexpriorplain_SameTokens.f k l l = some true := by
  unfold lexpriorplain_SameTokens.f
  rw [if_pos rfl]
  exact sameT_l0 l (by omega) l.length k 0 (by omega) (by omega) (by omega)
theorem sameR_l0 (l : List ByteArray) (hl : l.length ≤ 1000000) (d : Nat) : ∀ (k i : Nat), i ≤ l.length → l.length - i = d → d + 1 ≤ k → lexpriorplain_SameStrings.l0 k l l i = some true := by
  induction d with
  | zero =>
    intro k i hi hd hk
    obtain ⟨k, rfl⟩ : ∃ m, k = m + 1 := ⟨k - 1, by omega⟩
    simp only [lexpriorplain_SameStrings.l0]
    rw [if_neg (by omega)]
  | succ d IH =>
    intro k i hi hd hk
    obtain ⟨k, rfl⟩ : ∃ m, k = m + 1 := ⟨k - 1, by omega⟩
    simp only [lexpriorplain_SameStrings.l0, sc64 i (by omega)]
    rw [if_pos (by omega), if_pos (by omega), if_pos (by omega), if_pos trivial]
    exact IH k (i + 1) (by omega) (by omega) (by omega)
theorem sameR (l : List ByteArray) (hl : l.length ≤ 1000000) (k : Nat) (hk : 1000001 ≤ k) : lexpriorplain_SameStrings.f k l l = some true := by
  unfold lexpriorplain_SameStrings.f
  rw [if_pos rfl]
  exact sameR_l0 l (by omega) l.length k 0 (by omega) (by omega) (by omega)
end Go.Proofs.Ytmjneidcdaapdaa.P
