/- For all bytes and every text, together of bulk at most 1048576: Sum, Hex and Unhex answer as the reference does. -/
import Derived.Test.YtliggofcajihlaaOct2
namespace Go.Proofs.Ytliggofcajihlaa.Pure
open Go.RowKit Go.Proofs.Ytliggofcajihlaa.P Go.Proofs.YtliggofcajihlaaW.PrintWords Go.Proofs.YtliggofcajihlaaW.PrintLast

theorem OctetsDigits : lexpriorlaw01_OctetsDigits.Pure := by
  intro l0 a1 hmx hl hw hs
  have hb := bytes_wf hw
  have hun : octets_Unhex.f a1 = some (uh a1) := by unfold octets_Unhex.f; rw [if_pos (by omega)]
  have huh : (uh a1).1.length ≤ 9223372036854775806 := by
    unfold uh
    split
    · simp
    · split
      · simp
      · simp only [uhOut_len]; omega
  have hsm : octets_Sum.f l0 = some (crcL l0) := rfl
  obtain ⟨K1, h1⟩ := runhex a1 hs
  obtain ⟨K2, h2⟩ := rsum l0 hb (by omega)
  obtain ⟨K3, h3⟩ := hexE l0 hb (by omega)
  obtain ⟨K4, h4⟩ := rhexE l0 hb (by omega)
  obtain ⟨K5, h5⟩ := sameB (uh a1).1 (uh a1).1 huh
  refine ⟨K1 + K2 + K3 + K4 + K5, ?_⟩
  unfold lexpriorlaw01_OctetsDigits.f lexpriorlaw01_num.f lexpriorlaw01_alive.f
  simp only [hun, hsm, h1 _ (show K1 ≤ K1 + K2 + K3 + K4 + K5 by omega), h2 _ (show K2 ≤ K1 + K2 + K3 + K4 + K5 by omega), h3 _ (show K3 ≤ K1 + K2 + K3 + K4 + K5 by omega),
    h4 _ (show K4 ≤ K1 + K2 + K3 + K4 + K5 by omega), h5 _ (show K5 ≤ K1 + K2 + K3 + K4 + K5 by omega), Option.bind_some, decide_true, if_true]

end Go.Proofs.Ytliggofcajihlaa.Pure
