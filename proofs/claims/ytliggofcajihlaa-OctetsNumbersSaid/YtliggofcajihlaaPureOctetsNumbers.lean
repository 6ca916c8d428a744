/- For every number, all bytes and every place: Uint and ReadUint answer as the reference does, and the bytes stay. No condition beyond the form's own. -/
import Derived.Test.YtliggofcajihlaaOct1
namespace Go.Proofs.Ytliggofcajihlaa.Pure
open Go.RowKit Go.Proofs.Ytliggofcajihlaa.P Go.Proofs.YtliggofcajihlaaW.PrintWords Go.Proofs.YtliggofcajihlaaW.PrintLast

theorem OctetsNumbers : lexpriorlaw01_OctetsNumbers.Pure := by
  intro a0 l1 a2 w0 hm hl hw _
  have hb := bytes_wf hw
  obtain ⟨n, rfl, hn⟩ : ∃ n : Nat, a0 = n ∧ n < 18446744073709551616 := by
    have : 0 ≤ a0 ∧ a0 ≤ 18446744073709551615 := by simpa [Lit.wf, IntKind.min, IntKind.max, IntKind.signed, IntKind.bits] using w0
    exact ⟨a0.toNat, by omega, by omega⟩
  obtain ⟨K1, h1⟩ := copyB l1 (by omega)
  obtain ⟨K2, h2⟩ := rread l1 hb (by omega) a2
  obtain ⟨K3, h3⟩ := uint n hn
  obtain ⟨K4, h4⟩ := ruint n hn
  obtain ⟨K5, h5⟩ := sameB (vlq n) (vlq n) (by have := vlq_len10 n hn; omega)
  obtain ⟨K6, h6⟩ := sameB l1 l1 (by omega)
  refine ⟨K1 + K2 + K3 + K4 + K5 + K6, ?_⟩
  unfold lexpriorlaw01_OctetsNumbers.f lexpriorlaw01_num.f lexpriorlaw01_alive.f
  simp only [h1 _ (show K1 ≤ K1 + K2 + K3 + K4 + K5 + K6 by omega), h2 _ (show K2 ≤ K1 + K2 + K3 + K4 + K5 + K6 by omega), h3 _ (show K3 ≤ K1 + K2 + K3 + K4 + K5 + K6 by omega),
    h4 _ (show K4 ≤ K1 + K2 + K3 + K4 + K5 + K6 by omega), h5 _ (show K5 ≤ K1 + K2 + K3 + K4 + K5 + K6 by omega), h6 _ (show K6 ≤ K1 + K2 + K3 + K4 + K5 + K6 by omega), read l1 hb, Option.bind_some, decide_true, if_true]

end Go.Proofs.Ytliggofcajihlaa.Pure
