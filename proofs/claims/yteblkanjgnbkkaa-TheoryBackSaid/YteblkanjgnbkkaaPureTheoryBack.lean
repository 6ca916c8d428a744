/- Decode of Encode is the theory, and what Decode takes may be and is Encode's answer: over the functions that the program was printed as, whatever the theory and the bytes. -/
import Derived.Test.YteblkanjgnbkkaaThyS
import Derived.Test.YteblkanjgnbkkaaOpnB
namespace Go.Proofs.Yteblkanjgnbkkaa.P
open Go.RowKit Go.Proofs.YteblkanjgnbkkaaW.PrintWords Go.Proofs.Yteblkanjgnbkkaa.K
set_option linter.unusedVariables false
set_option linter.unusedSimpArgs false

theorem back_j0 {l : List Int} (hb : Bytes l) (hl : l.length ≤ 140737488351232) : Ev (fun k => lexpriorlaw12_TheoryBack.j0 k l) true := by
  refine Ev.step (fun _ => rfl) ?_
  simp only [lexpriorlaw12_TheoryBack.j0]
  have hd := decode_ev hb
  rcases ht : thyT l with ⟨e, p⟩ | ⟨a0, fo, rs, be⟩
  · rw [ht] at hd
    obtain ⟨h1, h2, h3⟩ := thyT_er hb ht
    refine Ev.bind hd ?_
    simp only [if_neg h1, if_true, List.length_nil, Int.natCast_zero, if_pos (show p ≥ 0 from h2), decide_eq_true h3]
    exact Ev.now _
  · rw [ht] at hd
    simp only at hd
    obtain ⟨w1, w2, _⟩ := thyT_wf hb ht
    by_cases hc : (chkS a0 fo rs be).1 = 0
    · rw [if_pos hc] at hd
      refine Ev.bind hd ?_
      simp only [if_true]
      refine Ev.bind (check_ev w1 w2) ?_
      have he := encode_ev (a0 := a0) (rs := rs) w1 w2
      rw [if_pos hc, (thyT_rd hb ht).1] at he
      refine Ev.bind he ?_
      simp only [hc, if_true]
      have hs := sameB l l (by omega)
      rw [decide_eq_true rfl] at hs
      exact Ev.bind hs (Ev.now _)
    · rw [if_neg hc] at hd
      refine Ev.bind hd ?_
      simp only [if_neg hc, if_true, List.length_nil, Int.natCast_zero, if_pos (show (0 : Int) ≥ 0 by omega), decide_eq_true (show (0 : Int) ≤ (l.length : Int) by omega)]
      exact Ev.now _
theorem theoryBack_ev {a0 : Int} {fo be : List (List Int)} {rs : List S46} {l : List Int} (hf : WfRows fo) (hbe : WfRows be) (hb : Bytes l) (hl : l.length ≤ 140737488351232) : Ev (fun k => lexpriorlaw12_TheoryBack.f k a0 fo rs be l) true := by
  unfold lexpriorlaw12_TheoryBack.f
  refine Ev.bind works12_ev ?_
  simp only [if_true]
  refine Ev.bind (check_ev hf hbe) (Ev.bind (encode_ev hf hbe) ?_)
  by_cases hc : (chkS a0 fo rs be).1 = 0
  · simp only [if_pos hc, hc, if_true]
    have hfi := fine_of hc
    have hd := decode_ev (encP_bytes a0 fo rs be)
    rw [thyT_bk hfi] at hd
    simp only [hc, if_true] at hd
    refine Ev.bind hd ?_
    simp only [if_true]
    have h1 := hfi.an
    have h2 := hfi.len
    have h3 := hfi.r4
    have h4 := hfi.bl
    refine Ev.bind (sameT_refl a0 (by omega) hf (by omega) (fun r hr => wfr (by have := (hfi.rule r hr).2.2.1; omega)) (by omega) hbe) ?_
    simp only [if_true]
    exact back_j0 hb hl
  · simp only [if_neg hc, if_true]
    exact back_j0 hb hl
end Go.Proofs.Yteblkanjgnbkkaa.P
namespace Go.Proofs.Yteblkanjgnbkkaa.Pure
open Go.RowKit Go.Proofs.YteblkanjgnbkkaaW.PrintWords Go.Proofs.Yteblkanjgnbkkaa.P
theorem TheoryBack : ∀ t, WfThy t → ∀ l, WfBytes l → ∃ k, lexpriorlaw12_TheoryBack.f k t.1 t.2.1 t.2.2.1 t.2.2.2 l = some true := fun _ ht _ hl =>
  (theoryBack_ev ht.2.1.1 ht.2.2.2.1 hl.2 hl.1).rounds
end Go.Proofs.Yteblkanjgnbkkaa.Pure
