/- A literal with neither leads into a circle, along strict rules; others lead nowhere: over the functions that the program was printed as. -/
import Derived.Test.YthlmpioijjnmnaaStrP
import Derived.Test.YthlmpioijjnmnaaPx
namespace Go.Proofs.Ythlmpioijjnmnaa.P
open Go.RowKit Go.Proofs.YthlmpioijjnmnaaW.PrintWords Go.Proofs.Ythlmpioijjnmnaa.K Go.Proofs.Ythlmpioijjnmnaa.S
set_option linter.unusedVariables false
set_option linter.unusedSimpArgs false

theorem max_of : ∀ l : List Int, ∃ K : Int, 0 ≤ K ∧ ∀ x, x ∈ l → x ≤ K
  | [] => ⟨0, by omega, fun x hx => by simp at hx⟩
  | y :: l => by
    obtain ⟨K, h0, h1⟩ := max_of l
    by_cases h : y ≤ K
    · refine ⟨K, h0, fun x hx => ?_⟩
      rcases List.mem_cons.1 hx with rfl | hx
      · exact h
      · exact h1 x hx
    · refine ⟨y, by omega, fun x hx => ?_⟩
      rcases List.mem_cons.1 hx with rfl | hx
      · exact Int.le_refl _
      · have := h1 x hx
        omega
theorem ga_bound (l : List Int) : ∃ K : Int, 0 ≤ K ∧ ∀ q, ga l q ≤ K := by
  obtain ⟨K, h0, h1⟩ := max_of l
  refine ⟨K, h0, fun q => ?_⟩
  unfold ga
  rw [List.getD_eq_getElem?_getD]
  by_cases h : q.toNat < l.length
  · rw [List.getElem?_eq_getElem h]
    exact h1 _ (List.getElem_mem h)
  · rw [List.getElem?_eq_none (by omega)]
    exact h0
theorem idxF_find (p : Int → Bool) : ∀ (xs : List Int) (i : Int), (∃ x, x ∈ xs ∧ p x = true) → ∃ j : Nat, j < xs.length ∧ idxF p xs i = i + j ∧ p (rd xs (j : Int)) = true ∧ rd xs (j : Int) ∈ xs
  | [], i, ⟨x, h, _⟩ => by simp at h
  | y :: xs, i, ⟨x, hx, hp⟩ => by
    by_cases h : p y = true
    · refine ⟨0, by simp, ?_, ?_, ?_⟩
      · simp only [idxF, if_pos h]
        omega
      · simpa [rd] using h
      · simp [rd]
    · have hx' : x ∈ xs := by
        rcases List.mem_cons.1 hx with rfl | hx
        · exact absurd hp h
        · exact hx
      obtain ⟨j, h1, h2, h3, h4⟩ := idxF_find p xs (i + 1) ⟨x, hx', hp⟩
      have e : rd (y :: xs) ((j + 1 : Nat) : Int) = rd xs (j : Int) := by simp [rd]
      refine ⟨j + 1, by simp; omega, ?_, ?_, ?_⟩
      · simp only [idxF, if_neg h]
        rw [h2]
        omega
      · rw [e]; exact h3
      · rw [e]; exact List.mem_cons_of_mem _ h4
def NoneS (T : Thy) (s : SV) (q : Int) : Prop := T.Rg q ∧ gb s.plus q = false ∧ gb s.minus q = false
def Ld (T : Thy) (a b : Int) : Prop := ∃ r, T.St r ∧ T.hd r = a ∧ b ∈ T.bd r
section
variable {T : Thy} {F : List Int} {s : SV} (h : Solved T F s) (hok : T.Ok)
include h hok
theorem none_rule {q : Int} (hq : NoneS T s q) : ∃ r, T.St r ∧ T.hd r = q ∧ gb s.dead r = false := by
  obtain ⟨hr, hp, hm⟩ := hq
  obtain ⟨K, K0, K1⟩ := ga_bound s.hgt
  apply Classical.byContradiction
  intro hn
  have hF : ¬ q ∈ F := fun hf => by
    have := (h.tells.fa q hf).1.2
    rw [hp] at this; cases this
  have := (h.tells.mc q K K0 hr hF (fun r h1 h2 => by
    have hd : gb s.dead r = true := by
      cases e : gb s.dead r
      · exact absurd ⟨r, h1, h2, e⟩ hn
      · rfl
    obtain ⟨b, b1, b2⟩ := (h.dead r h1).1 hd
    exact ⟨b, b1, ⟨hok.bd r h1 b b1, b2⟩, K1 b⟩)).1.2
  rw [hm] at this; cases this
theorem none_body {q r : Int} (hq : NoneS T s q) (h1 : T.St r) (h2 : T.hd r = q) (h3 : gb s.dead r = false) : (∃ b, b ∈ T.bd r ∧ gb s.plus b = false) ∧ ∀ b, b ∈ T.bd r → gb s.plus b = false → NoneS T s b := by
  obtain ⟨hr, hp, hm⟩ := hq
  obtain ⟨K, K0, K1⟩ := ga_bound s.hgt
  constructor
  · apply Classical.byContradiction
    intro hn
    have := (h.tells.pc r K K0 h1 (fun b hb => ⟨⟨hok.bd r h1 b hb, by
      cases e : gb s.plus b
      · exact absurd ⟨b, hb, e⟩ hn
      · rfl⟩, K1 b⟩)).1.2
    rw [h2, hp] at this; cases this
  · intro b hb hpb
    refine ⟨hok.bd r h1 b hb, hpb, ?_⟩
    cases e : gb s.minus b
    · rfl
    · have := (h.dead r h1).2 ⟨b, hb, e⟩
      rw [h3] at this; cases this
theorem loop_runs (q0 : Int) : ∀ (k : Nat) (seen : List Bool) (a : List Int) (lit : Int), a.length + k = T.n + 1 → seen.length = T.n → a.Nodup → (∀ x, x ∈ a → NoneS T s x) → NoneS T s lit → (∀ x : Int, 0 ≤ x → x < T.n → (gb seen x = true ↔ x ∈ a)) →
    (∀ i : Nat, i < a.length → Ld T ((a ++ [lit]).getD i 0) ((a ++ [lit]).getD (i + 1) 0)) → (a ++ [lit]).getD 0 0 = q0 →
    ∃ (a' : List Int) (x : Int), loopV T.n T.m T.bd s k seen lit (a ++ [lit]) = some (a' ++ [x]) ∧ a'.Nodup ∧ x ∈ a' ∧ (∀ y, y ∈ a' → NoneS T s y) ∧ (∀ i : Nat, i < a'.length → Ld T ((a' ++ [x]).getD i 0) ((a' ++ [x]).getD (i + 1) 0)) ∧ (a' ++ [x]).getD 0 0 = q0 := by
  intro k
  induction k with
  | zero =>
    intro seen a lit hk hs hn ha hl hg hc he
    have := nodup_len' T.n a hn (fun x hx => (ha x hx).1)
    omega
  | succ k ih =>
    intro seen a lit hk hs hn ha hl hg hc he
    have h4 := hok.n4
    have han := nodup_len' T.n a hn (fun x hx => (ha x hx).1)
    obtain ⟨l0, l1⟩ : 0 ≤ lit ∧ lit < (T.n : Int) := hl.1
    unfold loopV
    rw [if_pos ⟨⟨l0, l1⟩, by simp; omega⟩]
    by_cases hgl : gb seen lit = true
    · rw [if_pos hgl]
      exact ⟨a, lit, rfl, hn, (hg lit l0 l1).1 hgl, ha, hc, he⟩
    · rw [if_neg hgl]
      have hnm : ¬ lit ∈ a := fun x => hgl ((hg lit l0 l1).2 x)
      obtain ⟨L, hL⟩ : ∃ L, L = s.rls.getD lit.toNat [] := ⟨_, rfl⟩
      have hLm : ∀ r, r ∈ L ↔ T.St r ∧ T.hd r = lit := fun r => by
        rw [hL, h.stat.rls lit hl.1, List.mem_filter, irange_mem]
        unfold Thy.St
        simp only [decide_eq_true_eq]
        exact ⟨fun ⟨x, y, z⟩ => ⟨⟨x, y⟩, z⟩, fun ⟨⟨x, y⟩, z⟩ => ⟨x, y, z⟩⟩
      obtain ⟨r1, r2, r3, r4⟩ := none_rule h hok hl
      obtain ⟨ir, i1, i2, i3, i4⟩ := idxF_find (fun r => !gb s.dead r) L 0 ⟨r1, (hLm r1).2 ⟨r2, r3⟩, by rw [r4]; rfl⟩
      rw [Int.zero_add] at i2
      obtain ⟨r, hr⟩ : ∃ r, r = rd L (ir : Int) := ⟨_, rfl⟩
      rw [← hr] at i3 i4
      have hdead : gb s.dead r = false := by
        cases e : gb s.dead r
        · rfl
        · have i3 : (!gb s.dead r) = true := i3
          rw [e] at i3; cases i3
      obtain ⟨hst, hhd⟩ := (hLm r).1 i4
      obtain ⟨⟨b1, b2, b3⟩, b4⟩ := none_body h hok hl hst hhd hdead
      obtain ⟨jb, j1, j2, j3, j4⟩ := idxF_find (fun b => !gb s.plus b) (T.bd r) 0 ⟨b1, b2, by rw [b3]; rfl⟩
      rw [Int.zero_add] at j2
      obtain ⟨b, hb⟩ : ∃ b, b = rd (T.bd r) (jb : Int) := ⟨_, rfl⟩
      rw [← hb] at j3 j4
      have hpl : gb s.plus b = false := by
        cases e : gb s.plus b
        · rfl
        · have j3 : (!gb s.plus b) = true := j3
          rw [e] at j3; cases j3
      have hbn := b4 b j4 hpl
      rw [← hL, i2, ← hr, j2, ← hb, if_pos ⟨fun r hr => ((hLm r).1 hr).1.1, by omega, by omega⟩, if_pos ⟨fun b hb => hok.bd r hst b hb, by omega, by omega⟩]
      refine ih (seen.set lit.toNat true) (a ++ [lit]) b (by simp; omega) (by rw [List.length_set]; exact hs) ?_ ?_ hbn ?_ ?_ ?_
      · rw [List.nodup_append]
        refine ⟨hn, by simp, fun x hx y hy => ?_⟩
        simp at hy
        subst hy
        rintro rfl
        exact hnm hx
      · intro x hx
        rcases List.mem_append.1 hx with hx | hx
        · exact ha x hx
        · simp at hx; subst hx; exact hl
      · intro x x0 x1
        rw [gb_set l0 x0 (by omega)]
        by_cases e : x = lit
        · simp [e]
        · rw [if_neg e, hg x x0 x1]
          simp [e]
      · intro i hi
        simp at hi
        by_cases e : i < a.length
        · have e1 : (a ++ [lit] ++ [b]).getD i 0 = (a ++ [lit]).getD i 0 := by
            rw [List.getD_eq_getElem?_getD, List.getD_eq_getElem?_getD, List.getElem?_append_left (by simp; omega)]
          have e2 : (a ++ [lit] ++ [b]).getD (i + 1) 0 = (a ++ [lit]).getD (i + 1) 0 := by
            rw [List.getD_eq_getElem?_getD, List.getD_eq_getElem?_getD, List.getElem?_append_left (by simp; omega)]
          rw [e1, e2]
          exact hc i e
        · have ei : i = a.length := by omega
          have e1 : (a ++ [lit] ++ [b]).getD i 0 = lit := by
            rw [List.getD_eq_getElem?_getD, List.getElem?_append_left (by simp; omega), ei]; simp
          have e2 : (a ++ [lit] ++ [b]).getD (i + 1) 0 = b := by
            rw [List.getD_eq_getElem?_getD, ei, List.getElem?_append_right (by simp)]; simp
          rw [e1, e2]
          exact ⟨r, hst, hhd, j4⟩
      · rw [← he, List.getD_eq_getElem?_getD, List.getD_eq_getElem?_getD, List.getElem?_append_left (by simp)]
end
theorem leads_l1 {a0 : Int} {fo be : List (List Int)} {rs : List S37} (x y : Int) (i : Nat) (hi : i < rs.length) (hb : ((rd_T37 rs (i : Int)).f2).length ≤ 4096) (hc : Ev (fun k => lexpriorlaw14_leads.l0 k x y ((i + 1 : Nat) : Int) a0 fo rs be) true) (h4 : rs.length ≤ 4096) :
    ∀ (f j : Nat), j + f = ((rd_T37 rs (i : Int)).f2).length → Ev (fun k => lexpriorlaw14_leads.l1 k x y (i : Int) (j : Int) a0 fo rs be) true := by
  intro f
  induction f with
  | zero =>
    intro j hj
    refine Ev.step (fun _ => rfl) ?_
    simp only [lexpriorlaw14_leads.l1, if_pos (show (0 : Int) ≤ (i : Int) by omega), if_pos (show (i : Int) < (rs.length : Int) by omega), if_neg (show ¬ (j : Int) < (((rd_T37 rs (i : Int)).f2).length : Int) by omega), wr_succ (show i ≤ 140737488351232 by omega)]
    exact hc
  | succ f ih =>
    intro j hj
    refine Ev.step (fun _ => rfl) ?_
    simp only [lexpriorlaw14_leads.l1, if_pos (show (0 : Int) ≤ (i : Int) by omega), if_pos (show (i : Int) < (rs.length : Int) by omega), if_pos (show (j : Int) < (((rd_T37 rs (i : Int)).f2).length : Int) by omega), if_pos (show (0 : Int) ≤ (j : Int) by omega), wr_succ (show j ≤ 140737488351232 by omega)]
    have n := ih (j + 1) (by omega)
    by_cases c1 : (rd_T37 rs (i : Int)).f0 = 1
    · by_cases c2 : (rd_T37 rs (i : Int)).f1 = x
      · by_cases c3 : rd ((rd_T37 rs (i : Int)).f2) (j : Int) = y
        · simp only [if_pos c1, if_pos c2, if_pos c3]
          exact Ev.now _
        · simp only [if_pos c1, if_pos c2, if_neg c3]
          exact n
      · simp only [if_pos c1, if_neg c2]
        exact n
    · simp only [if_neg c1]
      exact n
theorem leads_here {a0 : Int} {fo be : List (List Int)} {rs : List S37} (x y : Int) (i : Nat) (hi : i < rs.length) (hb : ((rd_T37 rs (i : Int)).f2).length ≤ 4096) (c1 : (rd_T37 rs (i : Int)).f0 = 1) (c2 : (rd_T37 rs (i : Int)).f1 = x) (jb : Nat) (hjb : jb < ((rd_T37 rs (i : Int)).f2).length) (c3 : rd ((rd_T37 rs (i : Int)).f2) (jb : Int) = y) :
    ∀ (f j : Nat), j + f = jb → Ev (fun k => lexpriorlaw14_leads.l1 k x y (i : Int) (j : Int) a0 fo rs be) true := by
  intro f
  induction f with
  | zero =>
    intro j hj
    have : j = jb := by omega
    subst this
    refine Ev.step (fun _ => rfl) ?_
    simp only [lexpriorlaw14_leads.l1, if_pos (show (0 : Int) ≤ (i : Int) by omega), if_pos (show (i : Int) < (rs.length : Int) by omega), if_pos (show (j : Int) < (((rd_T37 rs (i : Int)).f2).length : Int) by omega), if_pos (show (0 : Int) ≤ (j : Int) by omega), if_pos c1, if_pos c2, if_pos c3]
    exact Ev.now _
  | succ f ih =>
    intro j hj
    have n := ih (j + 1) (by omega)
    refine Ev.step (fun _ => rfl) ?_
    simp only [lexpriorlaw14_leads.l1, if_pos (show (0 : Int) ≤ (i : Int) by omega), if_pos (show (i : Int) < (rs.length : Int) by omega), if_pos (show (j : Int) < (((rd_T37 rs (i : Int)).f2).length : Int) by omega), if_pos (show (0 : Int) ≤ (j : Int) by omega), if_pos c1, if_pos c2, wr_succ (show j ≤ 140737488351232 by omega)]
    by_cases c : rd ((rd_T37 rs (i : Int)).f2) (j : Int) = y
    · simp only [if_pos c]
      exact Ev.now _
    · simp only [if_neg c]
      exact n
theorem leads_ev {a0 : Int} {fo be : List (List Int)} {rs : List S37} (hp : Pre a0 fo rs) {x y : Int} (hl : Ld (thyS a0 rs) x y) : Ev (fun k => lexpriorlaw14_leads.f k a0 fo rs be x y) true := by
  obtain ⟨r, ⟨⟨r0, r1⟩, r2⟩, r3, r4⟩ := hl
  have r1 : r < (rs.length : Int) := r1
  obtain ⟨e1, e2, e3⟩ := thyS_rule (a0 := a0) r0 r1
  have h4 := hp.r4
  have ha := hp.an
  have bl : ∀ i : Nat, i < rs.length → ((rd_T37 rs (i : Int)).f2).length ≤ 4096 := fun i hi => by
    have := (rule_of (hp.rule _ (rdT_mem (l := rs) (j := i) hi))).2.2.2
    have := nodup_len' a0.toNat _ (ris_nodup this) (fun z hz => by
      have := (ris_iff.1 this).1 z hz
      omega)
    omega
  obtain ⟨i, rfl⟩ : ∃ i : Nat, r = (i : Int) := ⟨r.toNat, by omega⟩
  rw [e1] at r2
  rw [e2] at r3
  rw [e3] at r4
  obtain ⟨jb, hj, hjy⟩ := List.mem_iff_getElem.1 r4
  have hjy : rd ((rd_T37 rs (i : Int)).f2) (jb : Int) = y := by rw [rd_get hj]; exact hjy
  have main : ∀ (f j : Nat), j + f = i → Ev (fun k => lexpriorlaw14_leads.l0 k x y (j : Int) a0 fo rs be) true := by
    intro f
    induction f with
    | zero =>
      intro j hj'
      have : j = i := by omega
      subst this
      refine Ev.step (fun _ => rfl) ?_
      simp only [lexpriorlaw14_leads.l0, if_pos (show (j : Int) < (rs.length : Int) by omega)]
      exact leads_here x y j (by omega) (bl j (by omega)) r2 r3 jb hj hjy jb 0 (by omega)
    | succ f ih =>
      intro j hj'
      refine Ev.step (fun _ => rfl) ?_
      simp only [lexpriorlaw14_leads.l0, if_pos (show (j : Int) < (rs.length : Int) by omega)]
      exact leads_l1 x y j (by omega) (bl j (by omega)) (ih (j + 1) (by omega)) h4 ((rd_T37 rs (j : Int)).f2).length 0 (by rw [Nat.zero_add])
  exact main i 0 (by omega)
theorem loops_l0 {a0 : Int} {fo be : List (List Int)} {rs : List S37} (hp : Pre a0 fo rs) (n : Nat) (hn : (n : Int) = a0) (no : List Bool) (hno : (no.length : Int) = a0) (a : List Int) (x : Int) (ha4 : a.length ≤ 4096) (hnd : a.Nodup) (hx : x ∈ a) (hin : ∀ y, y ∈ a → (0 ≤ y ∧ y < (n : Int)) ∧ gb no y = true)
    (hc : ∀ i : Nat, i < a.length → Ld (thyS a0 rs) ((a ++ [x]).getD i 0) ((a ++ [x]).getD (i + 1) 0)) :
    ∀ (f i : Nat) (seen : List Bool), i + f = a.length + 1 → seen.length = n → (∀ y : Int, 0 ≤ y → y < n → (gb seen y = true ↔ y ∈ a.take i)) → Ev (fun k => lexpriorlaw14_StrictLoops.l0 k no (a ++ [x]) seen (i : Int) a0 fo rs be) true := by
  have hlen : (a ++ [x]).length = a.length + 1 := by simp
  intro f
  induction f with
  | zero =>
    intro i seen hi hs hg
    refine Ev.step (fun _ => rfl) ?_
    simp only [lexpriorlaw14_StrictLoops.l0, if_neg (show ¬ (i : Int) < ((a ++ [x]).length : Int) by omega)]
    exact Ev.now _
  | succ f ih =>
    intro i seen hi hs hg
    obtain ⟨y, hy⟩ : ∃ y, y = rd (a ++ [x]) (i : Int) := ⟨_, rfl⟩
    have hcase : (∃ hl : i < a.length, y = a[i]) ∨ (i = a.length ∧ y = x) := by
      by_cases hl : i < a.length
      · refine .inl ⟨hl, ?_⟩
        rw [hy, rd_get (show i < (a ++ [x]).length by omega), List.getElem_append_left hl]
      · have e : i = a.length := by omega
        refine .inr ⟨e, ?_⟩
        rw [hy, rd_get (show i < (a ++ [x]).length by omega), List.getElem_append_right (by omega)]
        simp [e]
    have hya : y ∈ a := by
      rcases hcase with ⟨hl, e⟩ | ⟨_, e⟩
      · rw [e]; exact List.getElem_mem hl
      · rw [e]; exact hx
    obtain ⟨⟨y0, y1⟩, y2⟩ := hin y hya
    have hlast : wrap64 (((a ++ [x]).length : Int) - 1) = (a.length : Int) := by rw [hlen, wr64 (by omega) (by omega)]; omega
    have hseen : gb seen y = ((i : Int) == (a.length : Int)) := by
      rcases hcase with ⟨hl, e⟩ | ⟨e, e'⟩
      · have h1 : ((i : Int) == (a.length : Int)) = false := by
          have : ¬ (i : Int) = (a.length : Int) := by omega
          simpa using this
        rw [h1]
        cases hc' : gb seen y
        · rfl
        · have hm := (hg y y0 y1).1 hc'
          obtain ⟨j, hj, ej⟩ := List.mem_iff_getElem.1 hm
          simp at hj
          rw [List.getElem_take, e] at ej
          exact absurd ej ((List.pairwise_iff_getElem.1 hnd) j i (by omega) hl (by omega))
      · have h1 : ((i : Int) == (a.length : Int)) = true := by
          have : (i : Int) = (a.length : Int) := by omega
          simpa using this
        rw [h1]
        exact (hg y y0 y1).2 (by rw [e, List.take_length]; exact hya)
    have hseen' : (rdOf false seen y != ((i : Int) == (a.length : Int))) = false := by
      have : rdOf false seen y = ((i : Int) == (a.length : Int)) := hseen
      rw [this]; simp
    have y2' : rdOf false no y = true := y2
    have hnext : Ev (fun k => lexpriorlaw14_StrictLoops.l0 k no (a ++ [x]) (seen.set y.toNat true) ((i + 1 : Nat) : Int) a0 fo rs be) true := by
      refine ih (i + 1) _ (by omega) (by rw [List.length_set]; exact hs) (fun z z0 z1 => ?_)
      rw [gb_set y0 z0 (by omega)]
      rcases hcase with ⟨hl, e⟩ | ⟨e, e'⟩
      · rw [List.take_add_one, List.getElem?_eq_getElem hl, List.mem_append]
        by_cases ez : z = y
        · simp [ez, e]
        · rw [if_neg ez, hg z z0 z1]
          have : ¬ z = a[i] := fun h => ez (h.trans e.symm)
          simp [this]
      · rw [List.take_of_length_le (by omega)]
        by_cases ez : z = y
        · subst ez; simp [hya]
        · rw [if_neg ez, hg z z0 z1, e, List.take_length]
    refine Ev.step (fun _ => rfl) ?_
    simp only [lexpriorlaw14_StrictLoops.l0, if_pos (show (i : Int) < ((a ++ [x]).length : Int) by omega), if_pos (show (0 : Int) ≤ (i : Int) by omega), ← hy, hlast, if_neg (show ¬ y < 0 by omega), if_neg (show ¬ y ≥ a0 by omega), if_pos y0, if_pos (show y < (no.length : Int) by omega), y2', if_true, if_pos (show y < (seen.length : Int) by omega), hseen', Bool.false_eq_true, if_false, wr_succ (show i ≤ 140737488351232 by omega)]
    by_cases hz : (i : Int) > 0
    · obtain ⟨p, rfl⟩ : ∃ p, i = p + 1 := ⟨i - 1, by omega⟩
      have hw : wrap64 (((p + 1 : Nat) : Int) - 1) = (p : Int) := by rw [wr64 (by omega) (by omega)]; omega
      simp only [hz, if_true, hw, if_pos (show (0 : Int) ≤ (p : Int) by omega), if_pos (show (p : Int) < ((a ++ [x]).length : Int) by omega)]
      have hld : Ld (thyS a0 rs) (rd (a ++ [x]) (p : Int)) y := by rw [hy]; exact hc p (by omega)
      refine Ev.bind (leads_ev hp hld) ?_
      simp only [if_true]
      exact hnext
    · simp only [hz, if_false]
      exact hnext
theorem neither_ev {a0 : Int} {fo be : List (List Int)} {rs : List S37} {l : List Int} (hf : WfRows fo) (hb : WfRows be) (hl : WfRow l) {r : List Int × Int} (h : pickT (gvS a0 fo rs be l) a0 (tri rs) l pNone = some r) : Ev (fun k => strict_Neither.f k a0 fo rs be l) r := by
  unfold strict_Neither.f
  refine Ev.bind (given_ev hf hb hl) ?_
  exact Ev.congr (fun _ => h) (Ev.now r)
theorem strictLoops_ev {a0 : Int} {fo be : List (List Int)} {rs : List S37} {l : List Int} {lit : Int} (hf : WfRows fo) (hb : WfRows be) (hl : WfRow l) (hm : -9223372036854775808 ≤ lit ∧ lit ≤ 9223372036854775807) : Ev (fun k => lexpriorlaw14_StrictLoops.f k a0 fo rs be l lit) true := by
  unfold lexpriorlaw14_StrictLoops.f
  refine Ev.bind works_ev ?_
  simp only [if_true]
  have jt : ∀ c, Ev (fun k => lexpriorlaw14_StrictLoops.j0 k l lit c true a0 fo rs be) true := fun c => by
    refine Ev.step (fun _ => rfl) ?_
    simp only [lexpriorlaw14_StrictLoops.j0, if_true]
    exact Ev.now _
  by_cases hg : gvS a0 fo rs be l = 0
  rotate_left
  · refine Ev.bind (neither_ev hf hb hl (pick_bad hg)) ?_
    simp only [if_neg hg]
    exact jt _
  obtain ⟨s, hs, hS, hok, _⟩ := solved_ev hg
  obtain ⟨g1, g2⟩ := gv_zero hg
  obtain ⟨hp, _⟩ := check_pre g1
  have ha := hp.an
  obtain ⟨n, hn⟩ : ∃ n : Nat, n = a0.toNat := ⟨_, rfl⟩
  have hna : (n : Int) = a0 := by omega
  have hn4 : n ≤ 4096 := by omega
  have e2 := pick_good (p := pNone) hg hs
  rw [← hn] at e2
  refine Ev.bind (neither_ev hf hb hl e2) ?_
  simp only [if_true]
  by_cases hz : a0 = 0
  · rw [show (a0 == 0) = true by simpa using hz]
    exact jt _
  rw [show (a0 == 0) = false by simpa using hz]
  have rs1 := pickF_ris pNone s n
  rw [hna] at rs1
  obtain ⟨no, p1, p2, p3⟩ := marked_ok ha.1 ha.2 rs1
  have t1 := Int.tmod_lt_of_pos lit (show 0 < a0 by omega)
  have t2 : -a0 < Int.tmod lit a0 := by
    have := Int.lt_tmod_of_pos lit (show 0 < a0 by omega)
    exact this
  refine Ev.step (fun _ => rfl) ?_
  simp only [lexpriorlaw14_StrictLoops.j0, Bool.false_eq_true, if_false, if_neg hz, p1, Option.bind_some]
  rw [wr64 (x := Int.tmod lit a0 + a0) (by omega) (by omega)]
  obtain ⟨q, hq⟩ : ∃ q, q = Int.tmod (Int.tmod lit a0 + a0) a0 := ⟨_, rfl⟩
  rw [← hq]
  have hq0 : 0 ≤ q := by rw [hq]; exact Int.tmod_nonneg _ (by omega)
  have hq1 : q < a0 := by rw [hq]; exact Int.tmod_lt_of_pos _ (by omega)
  clear hq t1 t2
  have hRg : ∀ x, (thyS a0 rs).Rg x ↔ 0 ≤ x ∧ x < (n : Int) := fun x => by
    show 0 ≤ x ∧ x < ((a0.toNat : Nat) : Int) ↔ _
    rw [← hn]
  have hTn : (thyS a0 rs).n = n := by show a0.toNat = _; rw [← hn]
  have hnone : ∀ x, 0 ≤ x → x < (n : Int) → (gb no x = true ↔ NoneS (thyS a0 rs) s x) := fun x x0 x1 => by
    rw [p3 x x0 (by omega), pickF_mem]
    unfold NoneS pNone
    rw [hRg]
    simp only [Bool.and_eq_true, Bool.not_eq_true'] <;> exact Iff.rfl
  by_cases hpm : gb s.plus q = true ∨ gb s.minus q = true
  · have e3 : loopT (gvS a0 fo rs be l) a0 (tri rs) l q = some ([], 203) := by
      unfold loopT
      rw [if_pos hg, if_pos ha.1, if_pos ⟨hq0, hq1⟩, hs]
      simp only [Option.bind_some]
      rw [if_pos hpm]
    refine Ev.bind (loop_ev hf hb hl e3) ?_
    have h2 : rdOf false no q = false := by
      cases e : rdOf false no q
      · rfl
      · have := (hnone q hq0 (by omega)).1 e
        rcases hpm with h | h
        · rw [this.2.1] at h; cases h
        · rw [this.2.2] at h; cases h
    simp only [if_pos hq0, if_pos (show q < (no.length : Int) by omega), h2, Bool.false_eq_true, if_false, if_true]
    exact Ev.now _
  · have hNq : NoneS (thyS a0 rs) s q := by
      refine ⟨(hRg q).2 ⟨hq0, by omega⟩, ?_, ?_⟩
      · cases e : gb s.plus q
        · rfl
        · exact absurd (.inl e) hpm
      · cases e : gb s.minus q
        · rfl
        · exact absurd (.inr e) hpm
    obtain ⟨a, x, r1, r2, r3, r4, r5, r6⟩ := loop_runs hS hok q (n + 1) (List.replicate n false) [] q (by rw [hTn]; simp) (by rw [hTn]; simp) List.nodup_nil (fun x hx => by simp at hx) hNq (fun x x0 x1 => by rw [K.gb_rep]; simp) (fun i hi => by simp at hi) rfl
    rw [hTn] at r1
    have e3 : loopT (gvS a0 fo rs be l) a0 (tri rs) l q = some (a ++ [x], 0) := by
      unfold loopT
      rw [if_pos hg, if_pos ha.1, if_pos ⟨hq0, hq1⟩, hs]
      simp only [Option.bind_some]
      rw [if_neg hpm, ← hn]
      have hm : (tri rs).length = (thyS a0 rs).m := by show _ = rs.length; simp [tri]
      rw [hm]
      have r1 : loopV n (thyS a0 rs).m (bdT (tri rs)) s (n + 1) (List.replicate n false) q [q] = some (a ++ [x]) := r1
      rw [r1]
      rfl
    refine Ev.bind (loop_ev hf hb hl e3) ?_
    have h2 : rdOf false no q = true := (hnone q hq0 (by omega)).2 hNq
    have hain : ∀ y, y ∈ a → 0 ≤ y ∧ y < (n : Int) := fun y hy => (hRg y).1 (r4 y hy).1
    have hal := nodup_len' n a r2 hain
    have hapos : 0 < a.length := List.length_pos_of_mem r3
    have hlen : (a ++ [x]).length = a.length + 1 := by simp
    have hhead : rd (a ++ [x]) 0 = q := r6
    simp only [if_pos hq0, if_pos (show q < (no.length : Int) by omega), h2, if_true, if_neg (show ¬ ((a ++ [x]).length : Int) < 2 by omega), if_pos (show (0 : Int) < ((a ++ [x]).length : Int) by omega), hhead, wr64 (x := a0 + 1) (by omega) (by omega), if_neg (show ¬ ((a ++ [x]).length : Int) > a0 + 1 by omega), if_pos ha.1, if_pos (show a0.toNat ≤ 281474976710656 by omega)]
    refine loops_l0 hp n hna no p2 a x (by omega) r2 r3 (fun y hy => ⟨hain y hy, (hnone y (hain y hy).1 (hain y hy).2).2 (r4 y hy)⟩) r5 (a.length + 1) 0 _ (by omega) (by rw [List.length_replicate]; omega) (fun y y0 y1 => by rw [K.gb_rep]; simp)
end Go.Proofs.Ythlmpioijjnmnaa.P
namespace Go.Proofs.Ythlmpioijjnmnaa.Pure
open Go.RowKit Go.Proofs.YthlmpioijjnmnaaW.PrintWords Go.Proofs.Ythlmpioijjnmnaa.P
theorem StrictLoops : ∀ t, WfThy t → ∀ l, WfInts l → ∀ a, (Lit.int .i64 a).wf = true → ∃ k, lexpriorlaw14_StrictLoops.f k t.1 t.2.1 t.2.2.1 t.2.2.2 l a = some true := fun _ ht _ hl _ ha =>
  (strictLoops_ev ht.2.1.1 ht.2.2.2.1 hl.1 (P.i64_of ha)).rounds
end Go.Proofs.Ythlmpioijjnmnaa.Pure
