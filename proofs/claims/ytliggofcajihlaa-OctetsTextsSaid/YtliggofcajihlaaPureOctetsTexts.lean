/- For every text, all bytes and every place: Text and ReadText answer as the reference does, and the bytes stay. No condition beyond the form's own. -/
import Derived.Test.YtliggofcajihlaaOct1
namespace Go.Proofs.Ytliggofcajihlaa.Pure
open Go.RowKit Go.Proofs.Ytliggofcajihlaa.P Go.Proofs.YtliggofcajihlaaW.PrintWords Go.Proofs.YtliggofcajihlaaW.PrintLast

theorem OctetsTexts : lexpriorlaw01_OctetsTexts.Pure := by
  intro a0 l1 a2 hs hm hl hw _
  have hb := bytes_wf hw
  obtain ⟨⟨r1, r2, r3⟩, hr⟩ := rt_some l1 a2
  have hlen := vlq_len10 a0.size (by omega)
  obtain ⟨K1, h1⟩ := copyB l1 (by omega)
  obtain ⟨K2, h2⟩ := rread l1 hb (by omega) a2
  obtain ⟨K3, h3⟩ := text a0 hs
  obtain ⟨K4, h4⟩ := rtext a0 hs
  obtain ⟨K5, h5⟩ := sameB (vlq a0.size ++ bytesOf a0) (vlq a0.size ++ bytesOf a0) (by rw [List.length_append, bytesOf_length]; omega)
  obtain ⟨K6, h6⟩ := sameB l1 l1 (by omega)
  refine ⟨K1 + K2 + K3 + K4 + K5 + K6, ?_⟩
  unfold lexpriorlaw01_OctetsTexts.f lexpriorlaw01_num.f lexpriorlaw01_alive.f octets_ReadText.f lexpriorref01_ReadText.f
  simp only [h1 _ (show K1 ≤ K1 + K2 + K3 + K4 + K5 + K6 by omega), h2 _ (show K2 ≤ K1 + K2 + K3 + K4 + K5 + K6 by omega), h3 _ (show K3 ≤ K1 + K2 + K3 + K4 + K5 + K6 by omega),
    h4 _ (show K4 ≤ K1 + K2 + K3 + K4 + K5 + K6 by omega), h5 _ (show K5 ≤ K1 + K2 + K3 + K4 + K5 + K6 by omega), h6 _ (show K6 ≤ K1 + K2 + K3 + K4 + K5 + K6 by omega), read l1 hb, hr, Option.bind_some, decide_true, if_true]

end Go.Proofs.Ytliggofcajihlaa.Pure
