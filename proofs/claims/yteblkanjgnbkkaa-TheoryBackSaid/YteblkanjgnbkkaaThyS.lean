/- Theory, plain: a theory is the same as itself; what 'works' asks holds. -/
import Derived.Test.YteblkanjgnbkkaaThyT
namespace Go.Proofs.Yteblkanjgnbkkaa.P
open Go.RowKit Go.Proofs.YteblkanjgnbkkaaW.PrintWords Go.Proofs.Yteblkanjgnbkkaa.K
set_option linter.unusedVariables false
set_option linter.unusedSimpArgs false

theorem sameI_l0 : ∀ (d i : Nat) (l : List Int), i + d = l.length → l.length ≤ 140737488351232 → Ev (fun k => lexpriorplain_SameInts.l0 k l l i) true
  | 0, i, l, hi, hl => by
    refine Ev.step (fun _ => rfl) ?_
    simp only [lexpriorplain_SameInts.l0, if_neg (show ¬ (i : Int) < (l.length : Int) by omega)]
    exact Ev.now _
  | d + 1, i, l, hi, hl => by
    refine Ev.step (fun _ => rfl) ?_
    simp only [lexpriorplain_SameInts.l0, if_pos (show (i : Int) < (l.length : Int) by omega), if_pos (show (0 : Int) ≤ (i : Int) by omega), if_true, wr_succ (show i ≤ 140737488351232 by omega)]
    exact sameI_l0 d (i + 1) l (by omega) hl
theorem sameI_refl (l : List Int) (hl : l.length ≤ 140737488351232) : Ev (fun k => lexpriorplain_SameInts.f k l l) true := by
  unfold lexpriorplain_SameInts.f
  simp only [if_true]
  exact sameI_l0 l.length 0 l (by omega) hl
theorem sameL_l0 : ∀ (d i : Nat) (l : List (List Int)), i + d = l.length → l.length ≤ 140737488351232 → WfRows l → Ev (fun k => lexpriorplain_SameIntLists.l0 k l l i) true
  | 0, i, l, hi, hl, hw => by
    refine Ev.step (fun _ => rfl) ?_
    simp only [lexpriorplain_SameIntLists.l0, if_neg (show ¬ (i : Int) < (l.length : Int) by omega)]
    exact Ev.now _
  | d + 1, i, l, hi, hl, hw => by
    refine Ev.step (fun _ => rfl) ?_
    simp only [lexpriorplain_SameIntLists.l0, if_pos (show (i : Int) < (l.length : Int) by omega), if_pos (show (0 : Int) ≤ (i : Int) by omega), wr_succ (show i ≤ 140737488351232 by omega)]
    exact Ev.bind (sameI_refl _ (row_wf hw i)) (by simp only [if_true]; exact sameL_l0 d (i + 1) l (by omega) hl hw)
theorem sameL_refl (l : List (List Int)) (hl : l.length ≤ 140737488351232) (hw : WfRows l) : Ev (fun k => lexpriorplain_SameIntLists.f k l l) true := by
  unfold lexpriorplain_SameIntLists.f
  simp only [if_true]
  exact sameL_l0 l.length 0 l (by omega) hl hw
theorem sameR_l0 : ∀ (d i : Nat) (l : List S46), i + d = l.length → l.length ≤ 140737488351232 → (∀ r, r ∈ l → WfRow r.f2) → Ev (fun k => lexpriorplain_SameRules.l0 k l l i) true
  | 0, i, l, hi, hl, hw => by
    refine Ev.step (fun _ => rfl) ?_
    simp only [lexpriorplain_SameRules.l0, if_neg (show ¬ (i : Int) < (l.length : Int) by omega)]
    exact Ev.now _
  | d + 1, i, l, hi, hl, hw => by
    have hil : i < l.length := by omega
    have hr : WfRow (rd_T46 l (i : Int)).f2 := by
      have e : rd_T46 l (i : Int) = l[i] := by simp [rd_T46, List.getD_eq_getElem?_getD, List.getElem?_eq_getElem hil]
      rw [e]
      exact hw _ (List.getElem_mem hil)
    refine Ev.step (fun _ => rfl) ?_
    simp only [lexpriorplain_SameRules.l0, if_pos (show (i : Int) < (l.length : Int) by omega), if_pos (show (0 : Int) ≤ (i : Int) by omega), wr_succ (show i ≤ 140737488351232 by omega)]
    have h1 : Ev (fun k => lexpriorplain_SameRule.f k (rd_T46 l (i : Int)).f0 (rd_T46 l (i : Int)).f1 (rd_T46 l (i : Int)).f2 (rd_T46 l (i : Int)).f0 (rd_T46 l (i : Int)).f1 (rd_T46 l (i : Int)).f2) true := by
      unfold lexpriorplain_SameRule.f
      simp only [if_true]
      exact Ev.bind (sameI_refl _ (by unfold WfRow at hr; omega)) (Ev.now _)
    refine Ev.bind h1 ?_
    simp only [if_true]
    exact sameR_l0 d (i + 1) l (by omega) hl hw
theorem sameR_refl (l : List S46) (hl : l.length ≤ 140737488351232) (hw : ∀ r, r ∈ l → WfRow r.f2) : Ev (fun k => lexpriorplain_SameRules.f k l l) true := by
  unfold lexpriorplain_SameRules.f
  simp only [if_true]
  exact sameR_l0 l.length 0 l (by omega) hl hw
theorem sameT_refl (a0 : Int) {fo be : List (List Int)} {rs : List S46} (h1 : fo.length ≤ 140737488351232) (h2 : WfRows fo) (h3 : rs.length ≤ 140737488351232) (h4 : ∀ r, r ∈ rs → WfRow r.f2) (h5 : be.length ≤ 140737488351232) (h6 : WfRows be) : Ev (fun k => lexpriorplain_SameTheory.f k a0 fo rs be a0 fo rs be) true := by
  unfold lexpriorplain_SameTheory.f
  simp only [if_true]
  refine Ev.bind (sameL_refl fo h1 h2) ?_
  simp only [if_true]
  refine Ev.bind (sameR_refl rs h3 h4) ?_
  simp only [if_true]
  exact Ev.bind (sameL_refl be h5 h6) (Ev.now _)
theorem wfr {l : List Int} (h : l.length ≤ 1000000) : WfRow l := by unfold WfRow; omega
/-! works -/
theorem wk_fine : Fine 2 [[1], [0]] wkRs [[1], []] := fine_of (by kernel_rfl)
theorem wk_enc : encP 2 [[1], [0]] wkRs [[1], []] = wkB := by
  have v0 : vlq 0 = [0] := vlq_small (by decide)
  have v1 : vlq 1 = [1] := vlq_small (by decide)
  have v2 : vlq 2 = [2] := vlq_small (by decide)
  simp [encP, uP, foesP, lisP, numsP, abv, rulP, beaP, wkRs, wkB, v0, v1, v2]
theorem wk_thyC : Ev (fun k => thyC k wkB) (.ok (2, [[1], [0]], wkRs, [[1], []])) := by
  have h := thyT_bk wk_fine
  rw [wk_enc] at h
  unfold thyC
  rw [h]
  have w1 : WfRows [[1], [0]] := fun r hr => by simp at hr; rcases hr with rfl | rfl <;> exact wfr (by simp)
  have w2 : WfRows [[1], []] := fun r hr => by simp at hr; rcases hr with rfl | rfl <;> exact wfr (by simp)
  have hc := check_ev (a0 := 2) (rs := wkRs) w1 w2
  rw [show chkS 2 [[1], [0]] wkRs [[1], []] = (0, 0) by kernel_rfl] at hc
  exact Ev.bind hc (by simp only [if_true]; exact Ev.now _)
theorem works12_ev : Ev (fun k => lexpriorlaw12_works.f k) true := by
  have w1 : WfRows [[1], [0]] := fun r hr => by simp at hr; rcases hr with rfl | rfl <;> exact wfr (by simp)
  have w2 : WfRows [[1], []] := fun r hr => by simp at hr; rcases hr with rfl | rfl <;> exact wfr (by simp)
  have e1 := check_ev (a0 := 2) (rs := wkRs) w1 w2
  rw [show chkS 2 [[1], [0]] wkRs [[1], []] = (0, 0) by kernel_rfl] at e1
  have e2 := encode_ev (a0 := 2) (rs := wkRs) w1 w2
  rw [show chkS 2 [[1], [0]] wkRs [[1], []] = (0, 0) by kernel_rfl, if_pos rfl, wk_enc] at e2
  have e3 : Ev (fun k => theory_Decode.f k wkB) (2, [[1], [0]], wkRs, [[1], []], 0, 18) := by
    unfold theory_Decode.f
    have hb : Bytes wkB := by decide
    simp only [if_pos hb]
    exact Ev.bind wk_thyC (Ev.now _)
  have e4 : Ev (fun k => theory_Pairs.f k 2 [[1], [0]] wkRs [[1], []]) (2, 0) := by
    unfold theory_Pairs.f
    refine Ev.bind e1 ?_
    have hp := pairs_ev (be := [[1], []]) (check_pre (show (chkS 2 [[1], [0]] wkRs [[1], []]).1 = 0 by kernel_rfl)).1
    rw [show pairsS 2 [[1], [0]] wkRs = 2 by kernel_rfl] at hp
    simp only [if_true]
    exact Ev.bind hp (Ev.now _)
  have e5 := check_ev (a0 := 2) (rs := wkRs) w1 w1
  rw [show chkS 2 [[1], [0]] wkRs [[1], [0]] = (131, 0) by kernel_rfl] at e5
  have e6 := sameT_refl 2 (fo := [[1], [0]]) (rs := wkRs) (be := [[1], []]) (by simp) w1 (by simp [wkRs]) (fun r hr => by simp [wkRs] at hr; rcases hr with rfl | rfl <;> exact wfr (by simp)) (by simp) w2
  obtain ⟨k1, e1⟩ := e1
  obtain ⟨k2, e2⟩ := e2
  obtain ⟨k3, e3⟩ := e3
  obtain ⟨k4, e4⟩ := e4
  obtain ⟨k5, e5⟩ := e5
  obtain ⟨k6, e6⟩ := e6
  refine ⟨k1 + k2 + k3 + k4 + k5 + k6, fun k hk => ?_⟩
  show lexpriorlaw12_works.f k = some true
  unfold lexpriorlaw12_works.f
  rw [if_pos ⟨⟨⟨e1 k (by omega), e2 k (by omega)⟩, e3 k (by omega)⟩, ⟨e4 k (by omega), e5 k (by omega)⟩, e6 k (by omega)⟩]
/-! Decode -/
/-- What is read has sizes that fit. -/
theorem thyT_wf {l : List Int} (hb : Bytes l) {a0 : Int} {fo be : List (List Int)} {rs : List S46} (h : thyT l = .ok (a0, fo, rs, be)) : WfRows fo ∧ WfRows be ∧ fo.length ≤ 4096 ∧ rs.length ≤ 4096 ∧ be.length ≤ 4096 ∧ ∀ r, r ∈ rs → WfRow r.f2 := by
  obtain ⟨_, ⟨as_, h1, h2, h3, h4⟩, h5, h6, h7, h8, h9, h10⟩ := thyT_rd hb h
  refine ⟨fun r hr => ?_, fun b hb' => ?_, by omega, h7, by omega, fun r hr => wfr (by have := (h9 r hr).2.2.1; omega)⟩
  · obtain ⟨x, hx, e⟩ := List.getElem_of_mem hr
    have hrow := bld_row (x := x) (F := List.replicate fo.length []) (by rw [List.length_replicate]) (by omega) h2
    rw [nxL_nil, List.nil_append, ← h4, nxL_get hx, e] at hrow
    have hok := con_pw (x := x) (Nat.zero_le _) h2
    have hm : ∀ z, z ∈ con 0 as_ x → 0 ≤ z ∧ z < fo.length := fun z hz => by
      rcases (con_mem (Nat.zero_le _) h2).1 hz with ⟨j, _, j2, j3, rfl, _⟩ | ⟨hl, hz⟩
      · omega
      · have hA : ∀ (as_ : List (List Int)) (q n : Nat), AbvOk n q as_ → ∀ i z, z ∈ as_.getD i [] → 0 ≤ z ∧ z < n := by
          intro as_
          induction as_ with
          | nil => intro q n _ i z hz; simp at hz
          | cons a as_ ih =>
            intro q n h i z hz
            cases i with
            | zero => have := h.1.1 z hz; omega
            | succ i => exact ih (q + 1) n h.2 i z (by simpa using hz)
        exact hA as_ 0 _ h2 _ z hz
    have := pair_len (m := fo.length) ⟨hm, hok⟩
    rw [hrow]
    exact wfr (by omega)
  · have := pair_len (h10 b hb')
    exact wfr (by omega)
theorem decode_ev {l : List Int} (hb : Bytes l) : Ev (fun k => theory_Decode.f k l) (match thyT l with
    | .error (e, p) => (0, [], [], [], e, p)
    | .ok (a0, fo, rs, be) => if (chkS a0 fo rs be).1 = 0 then (a0, fo, rs, be, 0, (l.length : Int)) else (0, [], [], [], (chkS a0 fo rs be).1, 0)) := by
  unfold theory_Decode.f thyC
  simp only [if_pos hb]
  rcases h : thyT l with ⟨e, p⟩ | ⟨a0, fo, rs, be⟩
  · simp only
    exact Ev.now _
  · simp only
    obtain ⟨w1, w2, _⟩ := thyT_wf hb h
    by_cases hc : (chkS a0 fo rs be).1 = 0
    · rw [if_pos hc]
      exact Ev.bind (show Ev _ (Except.ok (a0, fo, rs, be)) from Ev.bind (check_ev w1 w2) (by simp only [if_pos hc]; exact Ev.now _)) (Ev.now _)
    · rw [if_neg hc]
      exact Ev.bind (show Ev _ (Except.error ((chkS a0 fo rs be).1, 0)) from Ev.bind (check_ev w1 w2) (by simp only [if_neg hc]; exact Ev.now _)) (Ev.now _)
end Go.Proofs.Yteblkanjgnbkkaa.P
