/- For every number, every text and all bytes, together of bulk at most 1048576: numbers and texts are read as they were laid, among other bytes too; what is read is laid so; digits are read as the bytes. -/
import Derived.Test.YtliggofcajihlaaOct3
namespace Go.Proofs.Ytliggofcajihlaa.Pure
open Go.RowKit Go.Proofs.Ytliggofcajihlaa.P Go.Proofs.YtliggofcajihlaaW.PrintWords Go.Proofs.YtliggofcajihlaaW.PrintLast

theorem OctetsBack : lexpriorlaw01_OctetsBack.Pure := by
  intro a0 s l2 l3 w0 hs hm2 h2 hw2 hm3 h3 hw3
  have hb2 := bytes_wf hw2
  have hb3 := bytes_wf hw3
  obtain ⟨n, rfl, hn⟩ : ∃ n : Nat, a0 = n ∧ n < 18446744073709551616 := by
    have : 0 ≤ a0 ∧ a0 ≤ 18446744073709551615 := by simpa [Lit.wf, IntKind.min, IntKind.max, IntKind.signed, IntKind.bits] using w0
    exact ⟨a0.toNat, by omega, by omega⟩
  have hln := vlq_len10 n hn
  have hls := vlq_len10 s.size (by omega)
  have hlb := bytesOf_length s
  have r1 := ru_back n hn l2 (vlq s.size ++ bytesOf s ++ l3)
  have r2 := rt_back s (by omega) (l2 ++ vlq n) l3 (by simp only [List.length_append]; omega)
  have e1 : l2 ++ vlq n ++ (vlq s.size ++ bytesOf s ++ l3) = l2 ++ vlq n ++ (vlq s.size ++ bytesOf s) ++ l3 := by simp only [List.append_assoc]
  have e2 : l2 ++ vlq n ++ vlq s.size ++ bytesOf s ++ l3 = l2 ++ vlq n ++ (vlq s.size ++ bytesOf s) ++ l3 := by simp only [List.append_assoc]
  rw [e1] at r1
  rw [e2] at r2
  have hB : Bytes (l2 ++ vlq n ++ (vlq s.size ++ bytesOf s) ++ l3) := ((hb2.append (vlq_bytes n)).append ((vlq_bytes s.size).append (bytes_of s))).append hb3
  have hu := unhex_hex l3 hb3 (by omega)
  have hru : octets_Unhex.f (strOfNums (hexL l3)) = some (l3, 0, 0) := by
    unfold octets_Unhex.f
    rw [if_pos (by rw [strOfNums_size, hexL_len]; omega), hu]
  obtain ⟨K1, g1⟩ := uint n hn
  obtain ⟨K2, g2⟩ := text s (by omega)
  obtain ⟨K3, g3⟩ := copyB l2 (by omega)
  obtain ⟨K4, g4⟩ := hexE l3 hb3 (by omega)
  obtain ⟨K5, g5⟩ := sameB l3 l3 (by omega)
  have hw1 := Lib.hid (show wrap64 ((l2.length : Int) + ((vlq n).length : Int)) = (l2.length : Int) + ((vlq n).length : Int) from w64 (by omega) (by omega))
  have hlen : ((vlq s.size ++ bytesOf s).length : Int) = ((vlq s.size).length : Int) + s.size := by rw [List.length_append, hlb]; omega
  have hw2' := Lib.hid (show wrap64 ((l2.length : Int) + ((vlq n).length : Int) + ((vlq s.size ++ bytesOf s).length : Int)) = (l2.length : Int) + ((vlq n).length : Int) + ((vlq s.size ++ bytesOf s).length : Int) from w64 (by omega) (by omega))
  have hrt : octets_ReadText.f (l2 ++ vlq n ++ (vlq s.size ++ bytesOf s) ++ l3) ((l2.length : Int) + ((vlq n).length : Int)) = some (s, (l2.length : Int) + ((vlq n).length : Int) + ((vlq s.size ++ bytesOf s).length : Int), 0) := by
    unfold octets_ReadText.f
    rw [read _ hB, Option.bind_some]
    rw [List.length_append] at r2
    rw [show (((l2.length + (vlq n).length : Nat) : Int)) = (l2.length : Int) + ((vlq n).length : Int) from by omega] at r2
    rw [r2, hlen]
  rcases hz : ru l3 0 with ⟨z, at_, e⟩
  have tail : ∀ K, K1 + K2 + K3 + K4 + K5 ≤ K → (e = 0 → ∃ uz, octets_Uint.f K z = some uz ∧ lexpriorplain_SameBytes.f K uz (l3.take at_.toNat) = some true ∧ 0 ≤ at_ ∧ at_ ≤ l3.length) →
      lexpriorlaw01_OctetsBack.f K (n : Int) s l2 l3 = some true := by
    intro K hK hq
    have g1' : octets_Uint.f K (n : Int) = some (vlq n) := g1 K (by omega)
    have g2' : octets_Text.f K s = some (vlq s.size ++ bytesOf s) := g2 K (by omega)
    have g3' : lexpriorplain_CopyBytes.f K l2 = some l2 := g3 K (by omega)
    have g4' : octets_Hex.f K l3 = some (strOfNums (hexL l3)) := g4 K (by omega)
    have g5' : lexpriorplain_SameBytes.f K l3 l3 = some (decide (l3 = l3)) := g5 K (by omega)
    have c1 : l2.length + (vlq n).length < 140737488355328 := by omega
    have c2 : (l2 ++ vlq n).length + (vlq s.size ++ bytesOf s).length < 140737488355328 := by simp only [List.length_append]; omega
    have c3 : (l2 ++ vlq n ++ (vlq s.size ++ bytesOf s)).length + l3.length < 140737488355328 := by simp only [List.length_append]; omega
    unfold lexpriorlaw01_OctetsBack.f lexpriorlaw01_num.f lexpriorlaw01_alive.f
    simp only [g1', g2', g3', g4', g5', if_pos c1, if_pos c2, if_pos c3, hw1.out, read _ hB, r1, hrt, hw2'.out, read _ hb3, hz, hru, Option.bind_some, if_true, decide_true]
    by_cases he : e = 0
    · obtain ⟨uz, q1, q2, q3, q4⟩ := hq he
      simp only [if_pos he, if_pos (show at_ ≥ 0 from q3), if_pos q4, q1, q2, Option.bind_some, if_true]
    · simp only [if_neg he]
  by_cases he : e = 0
  · have hb := read_back l3 hb3 (by rw [hz]; exact he)
    rw [hz] at hb
    obtain ⟨m, hm, rfl, h0, h1, htk⟩ := hb
    obtain ⟨K6, g6⟩ := uint m hm
    obtain ⟨K7, g7⟩ := sameB (vlq m) (vlq m) (by have := vlq_len10 m hm; omega)
    refine ⟨K1 + K2 + K3 + K4 + K5 + K6 + K7, tail _ (by omega) (fun _ => ⟨vlq m, g6 _ (by omega), ?_, h0, h1⟩)⟩
    have := g7 (K1 + K2 + K3 + K4 + K5 + K6 + K7) (by omega)
    simp only [decide_true] at this
    simp only at htk
    rw [htk]
    exact this
  · exact ⟨_, tail _ (Nat.le_refl _) (fun h => absurd h he)⟩

end Go.Proofs.Ytliggofcajihlaa.Pure
