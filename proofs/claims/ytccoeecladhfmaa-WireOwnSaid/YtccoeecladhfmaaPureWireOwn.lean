/- WireOwn, plainly: what is answered has fitting sizes, and is the same as its copy. -/
import Derived.Test.YtccoeecladhfmaaWir3
import Derived.Test.YtccoeecladhfmaaOpnB
import Derived.Test.YtccoeecladhfmaaWOwn
namespace Go.Proofs.Ytccoeecladhfmaa.Pure
open Go.RowKit Go.Proofs.Ytccoeecladhfmaa.P Go.Proofs.YtccoeecladhfmaaW.PrintWords
theorem own_steps (y : List S52) (h : y.length ≤ 65536 ∧ ∀ s ∈ y, s.f4.length ≤ 4096) : Ev (fun k => lexpriorplain_CopySteps.f k y) y ∧ Ev (fun k => lexpriorplain_SameSteps.f k y y) true := by
  have h2 : ∀ s ∈ y, s.f4.length ≤ 8796093021952 := fun s hs => Nat.le_trans (h.2 s hs) (by omega)
  refine ⟨⟨y.length + 8796093021954, fun k hk => ?_⟩, ⟨y.length + 8796093021954, fun k hk => ?_⟩⟩
  · show lexpriorplain_CopySteps.f k y = _
    unfold lexpriorplain_CopySteps.f
    exact copyS_l0 y (by omega) h2 y.length k 0 (by omega) (by omega) (by omega)
  · show lexpriorplain_SameSteps.f k y y = _
    unfold lexpriorplain_SameSteps.f
    rw [if_pos rfl]
    exact sameS_l0 y (by omega) h2 y.length k 0 (by omega) (by omega) (by omega)
theorem fine_len {y : List S52} (h : fine y) : y.length ≤ 65536 ∧ ∀ s ∈ y, s.f4.length ≤ 4096 := by
  refine ⟨h.1, fun s hs => ?_⟩
  have := List.all_eq_true.1 h.2 s hs
  simp [stpOk] at this
  omega
theorem dec_own (b : List Int) (hb : Bytes b) : ∃ y e p, wire_Decode.f b = some (y, e, p) ∧ (y.length ≤ 65536 ∧ ∀ s ∈ y, s.f4.length ≤ 4096) := by
  have hd : wire_Decode.f b = some (decodeF b) := by unfold wire_Decode.f; rw [if_pos hb]
  rcases hs : stepsF b with ⟨e, p⟩ | ss
  · exact ⟨[], e, p, by rw [hd]; unfold decodeF; rw [hs], by simp⟩
  · exact ⟨ss, 0, (b.length : Int), by rw [hd]; unfold decodeF; rw [hs], fine_len (steps_rd hb hs).1⟩
theorem enc_own (l : List S52) : ∃ x e, x.length ≤ 140737488351232 ∧ ∀ k, 69640 < k → wire_Encode.f k l = some (x, e) := by
  by_cases hf : fine l
  · refine ⟨encP l, 0, ?_, fun k hk => enc_ok l hf k hk⟩
    have := tP_len hf.2 hf.1
    have h4 : (litL (crcL (tP l))).length = 4 := by simp [litL]
    unfold encP
    rw [List.length_append, h4]
    omega
  · exact ⟨[], _, by simp, fun k hk => enc_bad l hf k hk⟩
theorem WireOwn : ∀ l, WfSteps l → ∀ b, WfBytes b → ∃ k, lexpriorlaw21_WireOwn.f k l b = some true := by
  intro l h b ⟨hl, hb⟩
  obtain ⟨y, ye, yp, hy, hyl⟩ := dec_own b hb
  obtain ⟨x, xe, hx, hxe⟩ := enc_own l
  obtain ⟨⟨K1, h1⟩, ⟨K2, h2⟩⟩ := own_steps y hyl
  obtain ⟨K3, h3⟩ := copyB x hx
  obtain ⟨K4, h4⟩ := sameB x x (by omega)
  refine ⟨K1 + K2 + K3 + K4 + 69641, ?_⟩
  have a1 := h1 (K1 + K2 + K3 + K4 + 69641) (by omega)
  have a2 := h2 (K1 + K2 + K3 + K4 + 69641) (by omega)
  have a3 := h3 (K1 + K2 + K3 + K4 + 69641) (by omega)
  have a4 := h4 (K1 + K2 + K3 + K4 + 69641) (by omega)
  simp only [decide_true] at a1 a2 a3 a4
  unfold lexpriorlaw21_WireOwn.f
  rw [alive_ _ (by omega)]
  have a5 := hxe (K1 + K2 + K3 + K4 + 69641) (by omega)
  simp only [Option.bind_some, if_true, a5, hy, a1, a2, a3, a4]
end Go.Proofs.Ytccoeecladhfmaa.Pure
