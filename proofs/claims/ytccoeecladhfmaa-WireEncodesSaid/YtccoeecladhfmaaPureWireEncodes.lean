/- The plain law of WireEncodes. -/
import Derived.Test.YtccoeecladhfmaaWir2
namespace Go.Proofs.Ytccoeecladhfmaa.Pure
open Go.RowKit Go.Proofs.Ytccoeecladhfmaa.P Go.Proofs.YtccoeecladhfmaaW.PrintWords Go.Proofs.YtccoeecladhfmaaW.PrintLast
theorem WireEncodes : ∀ l, WfSteps l → ∃ k, lexpriorlaw21_WireEncodes.f k l = some true := by
  intro l h
  obtain ⟨K1, h1⟩ := copyS l h
  obtain ⟨K2, h2⟩ := sameS l h
  have hal := fun k => alive_ k
  by_cases hf : fine l
  · have hlen := tP_len hf.2 hf.1
    obtain ⟨K3, h3⟩ := sameB (encP l) (encP l) (by unfold encP; rw [List.length_append]; show _ + 4 ≤ _; omega)
    refine ⟨K1 + K2 + K3 + 500000000001, ?_⟩
    have a3 := h3 (K1 + K2 + K3 + 500000000001) (by omega)
    have a2 := h2 (K1 + K2 + K3 + 500000000001) (by omega)
    have a1 := h1 (K1 + K2 + K3 + 500000000001) (by omega)
    simp only at a1 a2 a3
    simp only [decide_true] at a3
    unfold lexpriorlaw21_WireEncodes.f
    rw [a1]
    simp only [Option.bind_some]
    rw [check l _ (by omega), rcheck l _ (by omega), enc_ok l hf _ (by omega), renc_ok l hf _ (by omega)]
    simp only [Option.bind_some, lexpriorlaw21_num.f, if_true, a2, a3, hal _ (show 69640 < K1 + K2 + K3 + 500000000001 by omega)]
  · obtain ⟨K3, h3⟩ := sameB [] [] (by decide)
    refine ⟨K1 + K2 + K3 + 500000000001, ?_⟩
    have a3 := h3 (K1 + K2 + K3 + 500000000001) (by omega)
    have a2 := h2 (K1 + K2 + K3 + 500000000001) (by omega)
    have a1 := h1 (K1 + K2 + K3 + 500000000001) (by omega)
    simp only at a1 a2 a3
    simp only [decide_true] at a3
    unfold lexpriorlaw21_WireEncodes.f
    rw [a1]
    simp only [Option.bind_some]
    rw [check l _ (by omega), rcheck l _ (by omega), enc_bad l hf _ (by omega), renc_bad l hf _ (by omega)]
    simp only [Option.bind_some, lexpriorlaw21_num.f, if_true, a2, a3, hal _ (show 69640 < K1 + K2 + K3 + 500000000001 by omega)]
end Go.Proofs.Ytccoeecladhfmaa.Pure
