/- What a number that is read fits in. -/
import Derived.Test.YtpcaonkahhbgfaaNum
import Derived.Recover
import Derived.Laws.Pointers
import Derived.Laws.StructEq
import Derived.RegionTactic
import Derived.BigRegion
import Derived.StillTailTactics
import Derived.Deep.RegionWith
import Derived.Deep.RegionLaw
import Derived.Deep.RegionLawGrows
import Derived.Lib.SlBytesConst
namespace Go.Proofs.Ytpcaonkahhbgfaa.Fit
open Go.RowKit Go.Proofs.YtpcaonkahhbgfaaW.PrintWords Go.Proofs.YtpcaonkahhbgfaaW.PrintLast Go.Proofs.Ytpcaonkahhbgfaa.P

theorem or_range (x y : Int) : 0 ≤ Go.bits .or .u64 x y ∧ Go.bits .or .u64 x y < 18446744073709551616 := by
  simp only [Go.bits]
  rw [IntKind.wrap_u64]
  omega
theorem ruGo_fits (a len : Int) : ∀ (l : List Int) (i : Nat) (n : Int), a + i + l.length = len → (ruGo a len l i n).2.2 = 0 →
    a < (ruGo a len l i n).2.1 ∧ (ruGo a len l i n).2.1 ≤ len ∧ 0 ≤ (ruGo a len l i n).1 ∧ (ruGo a len l i n).1 < 18446744073709551616 := by
  intro l
  induction l with
  | nil => intro i n _ h; simp [ruGo] at h
  | cons c l ih =>
    intro i n hl h
    simp only [List.length_cons] at hl
    unfold ruGo at h ⊢
    by_cases h1 : i = 9 ∧ 1 < c
    · rw [if_pos h1] at h; simp at h
    · simp only [if_neg h1] at h ⊢
      by_cases h2 : 128 ≤ c
      · simp only [if_pos h2] at h ⊢
        exact ih (i + 1) _ (by omega) h
      · simp only [if_neg h2] at h ⊢
        by_cases h3 : c = 0 ∧ 0 < i
        · rw [if_pos h3] at h; simp at h
        · simp only [if_neg h3] at h ⊢
          have := or_range n (IntKind.u64.wrap (c * 2 ^ (7 * i)))
          omega
theorem ru_fits (b : List Int) (at_ : Int) (h : (ru b at_).2.2 = 0) : 0 ≤ at_ ∧ at_ < (ru b at_).2.1 ∧ (ru b at_).2.1 ≤ b.length ∧ 0 ≤ (ru b at_).1 ∧ (ru b at_).1 < 18446744073709551616 := by
  unfold ru at h ⊢
  by_cases h1 : at_ < 0 ∨ (b.length : Int) < at_
  · rw [if_pos h1] at h; simp at h
  · simp only [if_neg h1] at h ⊢
    exact ⟨by omega, ruGo_fits at_ b.length _ 0 0 (by rw [List.length_drop]; omega) h⟩
end Go.Proofs.Ytpcaonkahhbgfaa.Fit
