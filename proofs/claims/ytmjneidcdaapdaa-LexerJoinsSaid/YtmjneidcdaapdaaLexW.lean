/- The lexer, plainly: a token's text alone is that token, by one step. -/
import Derived.Test.YtmjneidcdaapdaaLexV
namespace Go.Proofs.Ytmjneidcdaapdaa.P
open Go.RowKit Go.Proofs.YtmjneidcdaapdaaW.PrintWords Go.Proofs.YtmjneidcdaapdaaW.PrintLast
set_option linter.unusedVariables false
set_option linter.unusedSimpArgs false

/-- A token that its own text tells again. -/
def SelfN (t : Tk) : Prop := if t.f0 = 5 then t.f1.size ≤ 65534 ∧ Lib.containsAny t.f1.data.toList [34, 10] = false ∧ (∀ i : Nat, i < t.f1.size → qB (bt t.f1 i) = true) else 0 < t.f1.size ∧ t.f1.size ≤ 65536 ∧ nexP t.f1 0 [] [] = (true, t.f1.size, [⟨t.f0, t.f1, 0⟩], [], 0, 0)
/-- What a step does. -/
inductive StepN (s : ByteArray) (p : Nat) (T : List Tk) (R : List ByteArray) : Rs → Prop
  | blank : clsI (bt s p) = 1 → StepN s p T R (true, p + 1, T, R, 0, 0)
  | rem : bt s p = 35 → StepN s p T R (true, runB s nB (p + 1), T, R ++ [s.extract (p + 1) (runB s nB (p + 1))], 0, 0)
  | tok (t : Tk) (q : Nat) : p < q → q ≤ s.size → t.f2 = p → rawT t = s.extract p q → SelfN t → StepN s p T R (true, q, T ++ [t], R, 0, 0)
theorem put_stepN {s : ByteArray} {p q : Nat} {k : Int} {T : List Tk} {R : List ByteArray} (hpq : p < q) (hq : q ≤ s.size) (hk : k ≠ 5) (hs : s.size ≤ 65536) (hself : nexP (s.extract p q) 0 [] [] = (true, (s.extract p q).size, [⟨k, s.extract p q, 0⟩], [], 0, 0)) (hr : (putP s p k q T R).1 = true) : StepN s p T R (putP s p k q T R) := by
  unfold putP at hr ⊢
  split at hr
  · cases hr
  · next c =>
    rw [if_neg c]
    refine .tok ⟨k, s.extract p q, p⟩ q hpq hq rfl ?_ ?_
    · unfold rawT; rw [if_neg hk]
    · unfold SelfN; rw [if_neg hk]; have hz := (piece s p q (by omega) hq).2; exact ⟨by simp only; omega, by simp only; omega, hself⟩
theorem step_n {s : ByteArray} {p : Nat} {T : List Tk} {R : List ByteArray} (hp : p < s.size) (hs : s.size ≤ 65536) (hr : (nexP s p T R).1 = true) : StepN s p T R (nexP s p T R) := by
  unfold nexP at hr ⊢
  by_cases c1 : clsI (bt s p) = 1
  · rw [if_pos c1]; exact .blank c1
  rw [if_neg c1] at hr ⊢
  have wd : ∀ (k : Int) (G : Int → Bool), k ≠ 5 → G (clsI (bt s p)) = true → (wordP s p k G T R).1 = true → (∀ t : ByteArray, bt t 0 = bt s p → nexP t 0 [] [] = wordP t 0 k G [] []) → StepN s p T R (wordP s p k G T R) := fun k G hk hg hr hn => by
    have hgt := runI_gt (G := G) hp hg
    unfold wordP at hr ⊢
    split at hr
    · cases hr
    · next c =>
      rw [if_neg c]
      obtain ⟨hpc, hz⟩ := piece s p (runI s G p) (by omega) hgt.2
      refine put_stepN hgt.1 hgt.2 hk hs ?_ hr
      rw [hn _ (hpc.zero (by omega))]
      exact hpc.word (by omega) (by omega) (by omega)
  by_cases c2 : clsI (bt s p) = 2
  · rw [if_pos c2] at hr ⊢
    exact wd 1 gN (by decide) (by rw [c2]; rfl) hr (fun t e => by unfold nexP; rw [show bt t ((0 : Nat) : Int) = bt s p from e, if_neg c1, if_pos c2])
  rw [if_neg c2] at hr ⊢
  by_cases c3 : clsI (bt s p) = 3
  · rw [if_pos c3] at hr ⊢
    exact wd 2 gV (by decide) (by rw [c3]; rfl) hr (fun t e => by unfold nexP; rw [show bt t ((0 : Nat) : Int) = bt s p from e, if_neg c1, if_neg c2, if_pos c3])
  rw [if_neg c3] at hr ⊢
  by_cases c4 : clsI (bt s p) = 4
  · rw [if_pos c4] at hr ⊢
    have hn : ∀ t : ByteArray, bt t 0 = bt s p → nexP t 0 [] [] = numP t 0 [] [] := fun t e => by unfold nexP; rw [show bt t ((0 : Nat) : Int) = bt s p from e, if_neg c1, if_neg c2, if_neg c3, if_pos c4]
    unfold numP at hr ⊢
    by_cases cd : dateI s p = true
    · rw [if_pos cd] at hr ⊢
      have h10 : p + 10 ≤ s.size := by unfold dateI at cd; simp at cd; exact cd.1
      obtain ⟨hpc, hz⟩ := piece s p (p + 10) (by omega) h10
      refine put_stepN (by omega) h10 (by decide) hs ?_ hr
      rw [hn _ (hpc.zero (by omega))]
      unfold numP
      rw [if_pos (hpc.date cd (by omega)), show 0 + 10 = (s.extract p (p + 10)).size by omega, put_end]
      rfl
    · rw [if_neg cd] at hr ⊢
      have hq := numQ_le s (p := p) (by omega)
      have hgt : p < numQ s p := by
        have h1 := runI_gt (G := gD) hp (by rw [c4]; rfl)
        unfold numQ
        split
        · have := runI_le s gD (p := runI s gD p + 1) (by omega)
          omega
        · exact h1.1
      obtain ⟨hpc, hz⟩ := piece s p (numQ s p) (by omega) hq.2
      refine put_stepN hgt hq.2 (by decide) hs ?_ hr
      rw [hn _ (hpc.zero (by omega))]
      obtain ⟨n1, n2⟩ := hpc.num hp c4 (by omega)
      unfold numP
      rw [if_neg (by rw [n1]; simp), n2, put_end]
      rfl
  rw [if_neg c4] at hr ⊢
  by_cases c34 : bt s p = 34
  · rw [if_pos c34] at hr ⊢
    unfold quoP at hr ⊢
    split at hr
    · next c =>
      rw [if_pos c]
      obtain ⟨a, b, cc, d⟩ := runB_spec s qB (p := p + 1) (by omega)
      obtain ⟨q, hq⟩ : ∃ q, q = runB s qB (p + 1) := ⟨_, rfl⟩
      rw [← hq] at a b cc d c ⊢
      have d1 := d c.1
      have e34 : bt s q = 34 := by
        unfold qB at d1
        simp only [Bool.and_eq_false_iff] at d1
        rcases d1 with d1 | d1
        · simpa using d1
        · exact absurd (by simpa using d1) c.2
      have hz : (s.extract (p + 1) q).size = q - (p + 1) := by simp; omega
      refine .tok ⟨5, s.extract (p + 1) q, p⟩ (q + 1) (by omega) (by omega) rfl ?_ ?_
      · unfold rawT
        rw [if_pos rfl]
        exact quo_raw a c.1 c34 e34
      · unfold SelfN
        rw [if_pos rfl]
        refine ⟨by simp only; omega, ?_, fun i hi => by
          rw [(piece s (p + 1) q a (by omega)).1.at_ i hi]
          exact cc (p + 1 + i) (by omega) (by have : i < (s.extract (p + 1) q).size := hi; omega)⟩
        unfold Lib.containsAny
        rw [Lib.indexAny_none]
        · rfl
        · intro j x hj hx
          have hlt : j < (s.extract (p + 1) q).size := by rw [Lib.size_eq]; exact hj
          have e1 := Lib.data_getElem? (s.extract (p + 1) q) j hlt
          rw [hx] at e1
          have e2 := (piece s (p + 1) q a (by omega)).1.at_ j hlt
          rw [bt_get _ j hlt, ← Option.some.inj e1] at e2
          have e3 := cc (p + 1 + j) (by omega) (by omega)
          rw [← e2, qB_ok] at e3
          simpa [qN] using e3
    · cases hr
  rw [if_neg c34] at hr ⊢
  by_cases c35 : bt s p = 35
  · rw [if_pos c35] at hr ⊢
    unfold remP
    exact .rem c35
  rw [if_neg c35] at hr ⊢
  have hn : ∀ t : ByteArray, bt t 0 = bt s p → nexP t 0 [] [] = marP t 0 [] [] := fun t e => by unfold nexP; rw [show bt t ((0 : Nat) : Int) = bt s p from e, if_neg c1, if_neg c2, if_neg c3, if_neg c4, if_neg c34, if_neg c35]
  unfold marP at hr ⊢
  rcases hm : findM s p marksL with _ | m
  · rw [hm] at hr; cases hr
  · obtain ⟨hm1, hm2⟩ := findM_mem hm
    have h3 := marks_sz m hm1
    have h4 := begB_le (by omega) hm2
    have hx : m = s.extract p (p + m.size) := beg_ext (by omega) hm2
    obtain ⟨hpc, hz⟩ := piece s p (p + m.size) (by omega) h4
    rw [← hx] at hpc
    refine .tok ⟨6, m, p⟩ (p + m.size) (by omega) h4 rfl ?_ ?_
    · unfold rawT; rw [if_neg (show ¬ (6 : Int) = 5 by decide)]; exact hx
    · unfold SelfN
      rw [if_neg (show ¬ (6 : Int) = 5 by decide)]
      refine ⟨by simp only; omega, by simp only; omega, ?_⟩
      show nexP m 0 [] [] = (true, m.size, [⟨6, m, 0⟩], [], 0, 0)
      rw [hn _ (hpc.zero (by omega))]
      unfold marP
      rw [hpc.mark hm]
      simp
theorem SelfN.self {t : Tk} (h : SelfN t) : SelfT t := by
  unfold SelfN at h
  unfold SelfT
  by_cases h5 : t.f0 = 5
  · rw [if_pos h5] at h ⊢; exact ⟨h.1, h.2.1⟩
  · rw [if_neg h5] at h ⊢
    exact scan_one _ _ h.1 h.2.1 h.2.2
end Go.Proofs.Ytmjneidcdaapdaa.P
