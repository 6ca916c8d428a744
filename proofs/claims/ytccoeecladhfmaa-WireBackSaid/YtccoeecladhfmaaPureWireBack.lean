/- The plain law of WireBack. -/
import Derived.Test.YtccoeecladhfmaaWir3
import Derived.Test.YtccoeecladhfmaaOpnB
namespace Go.Proofs.Ytccoeecladhfmaa.Pure
open Go.RowKit Go.Proofs.Ytccoeecladhfmaa.P Go.Proofs.YtccoeecladhfmaaW.PrintWords Go.Proofs.YtccoeecladhfmaaW.PrintLast
theorem back_j0 (b : List Int) (hb : Bytes b) (hl : b.length ≤ 9223372036854775806) : Ev (fun k => lexpriorlaw21_WireBack.j0 k b) true := by
  have hd : wire_Decode.f b = some (decodeF b) := by unfold wire_Decode.f; rw [if_pos hb]
  rcases hs : stepsF b with ⟨e, p⟩ | ss
  · have he : decodeF b = ([], e, p) := by unfold decodeF; rw [hs]
    have hne : e ≠ 0 := steps_er hs
    refine ⟨1, fun k hk => ?_⟩
    obtain ⟨k, rfl⟩ : ∃ m, k = m + 1 := ⟨k - 1, by omega⟩
    show lexpriorlaw21_WireBack.j0 (k + 1) b = _
    simp only [lexpriorlaw21_WireBack.j0, hd, he, Option.bind_some, lexpriorlaw21_num.f]
    rw [if_neg hne]
    rfl
  · have he : decodeF b = (ss, 0, (b.length : Int)) := by unfold decodeF; rw [hs]
    obtain ⟨hf, hbe⟩ := steps_rd hb hs
    obtain ⟨K, hK⟩ := sameB b b hl
    refine ⟨K + 69642, fun k hk => ?_⟩
    obtain ⟨k, rfl⟩ : ∃ m, k = m + 1 := ⟨k - 1, by omega⟩
    have a := hK k (by omega)
    simp only [decide_true] at a
    show lexpriorlaw21_WireBack.j0 (k + 1) b = _
    simp only [lexpriorlaw21_WireBack.j0, hd, he, Option.bind_some, lexpriorlaw21_num.f, if_true, enc_ok ss hf k (by omega), ← hbe, a]
theorem WireBack : ∀ l, WfSteps l → ∀ b, WfBytes b → ∃ k, lexpriorlaw21_WireBack.f k l b = some true := by
  intro l h b ⟨hl, hb⟩
  obtain ⟨K1, h1⟩ := back_j0 b hb (by omega)
  obtain ⟨K2, h2⟩ := sameS l h
  refine ⟨K1 + K2 + 500000000001, ?_⟩
  have a1 := h1 (K1 + K2 + 500000000001) (by omega)
  have a2 := h2 (K1 + K2 + 500000000001) (by omega)
  simp only at a1 a2
  unfold lexpriorlaw21_WireBack.f
  rw [alive_ _ (by omega)]
  simp only [Option.bind_some, if_true]
  by_cases hf : fine l
  · have hd : wire_Decode.f (encP l) = some (l, 0, ((encP l).length : Int)) := by
      unfold wire_Decode.f decodeF
      rw [if_pos (encP_bytes hf), steps_bk hf]
    rw [enc_ok l hf _ (by omega)]
    simp only [Option.bind_some, lexpriorlaw21_num.f, if_true, hd, a1, a2]
  · rw [enc_bad l hf _ (by omega)]
    have hne : ¬ (chk l).1 = 0 := fun hz => hf ((chk_zero l).1 hz)
    simp only [Option.bind_some, lexpriorlaw21_num.f, if_neg hne, a1]
end Go.Proofs.Ytccoeecladhfmaa.Pure
