/- With a fact more no +D goes, and no -D comes: over the functions that the program was printed as, whatever the theory, the facts and the number. -/
import Derived.Test.YthlmpioijjnmnaaStrP
import Derived.Test.YthlmpioijjnmnaaPx
namespace Go.Proofs.Ythlmpioijjnmnaa.P
open Go.RowKit Go.Proofs.YthlmpioijjnmnaaW.PrintWords Go.Proofs.Ythlmpioijjnmnaa.K Go.Proofs.Ythlmpioijjnmnaa.S
set_option linter.unusedVariables false
set_option linter.unusedSimpArgs false

theorem more_l2 (q : Int) (pl mi : List Bool) (hq0 : 0 ≤ q) (hq1 : q < pl.length) (hq : gb pl q = true) (d : List Int) (hd : d.length ≤ 140737488351232) (hin : ∀ x, x ∈ d → (0 ≤ x ∧ x < mi.length) ∧ gb mi x = true) : ∀ (f i : Nat), i + f = d.length → Ev (fun k => lexpriorlaw14_StrictMore.l2 k q d pl mi i) true := by
  intro f
  induction f with
  | zero =>
    intro i hi
    refine Ev.step (fun _ => rfl) ?_
    simp only [lexpriorlaw14_StrictMore.l2, if_neg (show ¬ (i : Int) < (d.length : Int) by omega), if_pos hq0, if_pos hq1]
    have : rdOf false pl q = true := hq
    rw [this]
    exact Ev.now _
  | succ f ih =>
    intro i hi
    obtain ⟨⟨h0, h1⟩, h2⟩ := hin _ (rd_mem (l := d) (j := i) (by omega))
    have h2 : rdOf false mi (rd d (i : Int)) = true := h2
    refine Ev.step (fun _ => rfl) ?_
    simp only [lexpriorlaw14_StrictMore.l2, if_pos (show (i : Int) < (d.length : Int) by omega), if_pos (show (0 : Int) ≤ (i : Int) by omega), if_pos h0, if_pos h1, if_pos h2, wr_succ (show i ≤ 140737488351232 by omega)]
    exact ih (i + 1) (by omega)
theorem more_l1 (q : Int) (pl mi : List Bool) (hq0 : 0 ≤ q) (hq1 : q < pl.length) (hq : gb pl q = true) (d : List Int) (hd : d.length ≤ 140737488351232) (hin : ∀ x, x ∈ d → (0 ≤ x ∧ x < mi.length) ∧ gb mi x = true) (a : List Int) (ha : a.length ≤ 140737488351232) (hia : ∀ x, x ∈ a → (0 ≤ x ∧ x < pl.length) ∧ gb pl x = true) :
    ∀ (f i : Nat), i + f = a.length → Ev (fun k => lexpriorlaw14_StrictMore.l1 k a q d pl mi i) true := by
  intro f
  induction f with
  | zero =>
    intro i hi
    refine Ev.step (fun _ => rfl) ?_
    simp only [lexpriorlaw14_StrictMore.l1, if_neg (show ¬ (i : Int) < (a.length : Int) by omega)]
    exact more_l2 q pl mi hq0 hq1 hq d hd hin d.length 0 (by omega)
  | succ f ih =>
    intro i hi
    obtain ⟨⟨h0, h1⟩, h2⟩ := hia _ (rd_mem (l := a) (j := i) (by omega))
    have h2 : rdOf false pl (rd a (i : Int)) = true := h2
    refine Ev.step (fun _ => rfl) ?_
    simp only [lexpriorlaw14_StrictMore.l1, if_pos (show (i : Int) < (a.length : Int) by omega), if_pos (show (0 : Int) ≤ (i : Int) by omega), if_pos h0, if_pos h1, if_pos h2, wr_succ (show i ≤ 140737488351232 by omega)]
    exact ih (i + 1) (by omega)
/-- The facts that are collected. -/
theorem more_l0 {a0 : Int} {fo be : List (List Int)} {rs : List S37} (n : Nat) (hn : (n : Int) = a0) (hn4 : n ≤ 4096) (a b : List Int) (q : Int) (inn : List Bool) (hl : inn.length = n) (hc : Ev (fun k => ((strict_Plus.f k a0 fo rs be ((irange n).filter (gb inn))).bind fun bt216 => ((strict_Minus.f k a0 fo rs be ((irange n).filter (gb inn))).bind fun bt220 => (if bt216.2 = 0 then (lexpriorlaw14_StrictMore.j2 k a b q bt216.1 bt220.1 (bt220.2 != 0) a0 fo rs be) else (lexpriorlaw14_StrictMore.j2 k a b q bt216.1 bt220.1 true a0 fo rs be))))) true) :
    ∀ (f i : Nat) (acc : List Int), i + f = n → acc.length ≤ i → acc ++ ((irange n).drop i).filter (gb inn) = (irange n).filter (gb inn) → Ev (fun k => lexpriorlaw14_StrictMore.l0 k a b q inn acc i a0 fo rs be) true := by
  intro f
  induction f with
  | zero =>
    intro i acc hi ha hacc
    rw [List.drop_of_length_le (by rw [irange_len]; omega), List.filter_nil, List.append_nil] at hacc
    refine Ev.step (fun _ => rfl) ?_
    simp only [lexpriorlaw14_StrictMore.l0, if_neg (show ¬ (i : Int) < a0 by omega)]
    rw [hacc]
    exact hc
  | succ f ih =>
    intro i acc hi ha hacc
    rw [irange_drop (by omega), List.filter_cons] at hacc
    refine Ev.step (fun _ => rfl) ?_
    simp only [lexpriorlaw14_StrictMore.l0, if_pos (show (i : Int) < a0 by omega), if_pos (show (0 : Int) ≤ (i : Int) by omega), if_pos (show (i : Int) < (inn.length : Int) by omega), wr_succ (show i ≤ 140737488351232 by omega)]
    by_cases h : gb inn i = true
    · rw [if_pos h] at hacc
      have h' : rdOf false inn (i : Int) = true := h
      simp only [if_pos h', if_pos (show acc.length < 17592186044416 by omega)]
      exact ih (i + 1) _ (by omega) (by simp; omega) (by rw [List.append_assoc]; exact hacc)
    · rw [if_neg h] at hacc
      have h' : ¬ rdOf false inn (i : Int) = true := h
      simp only [if_neg h']
      exact ih (i + 1) _ (by omega) (by omega) hacc
theorem strictMore_ev {a0 : Int} {fo be : List (List Int)} {rs : List S37} {l : List Int} {more : Int} (hf : WfRows fo) (hb : WfRows be) (hl : WfRow l) (hm : -9223372036854775808 ≤ more ∧ more ≤ 9223372036854775807) : Ev (fun k => lexpriorlaw14_StrictMore.f k a0 fo rs be l more) true := by
  unfold lexpriorlaw14_StrictMore.f
  refine Ev.bind works_ev ?_
  simp only [if_true]
  have jt : ∀ a b, Ev (fun k => lexpriorlaw14_StrictMore.j0 k l more a b true a0 fo rs be) true := fun a b => by
    refine Ev.step (fun _ => rfl) ?_
    simp only [lexpriorlaw14_StrictMore.j0, if_true]
    exact Ev.now _
  by_cases hg : gvS a0 fo rs be l = 0
  rotate_left
  · refine Ev.bind (plus_ev hf hb hl (pick_bad hg)) ?_
    refine Ev.bind (minus_ev hf hb hl (pick_bad hg)) ?_
    simp only [if_neg hg]
    exact jt _ _
  obtain ⟨s, hs, hS, hok, _⟩ := solved_ev hg
  obtain ⟨g1, g2⟩ := gv_zero hg
  obtain ⟨hp, _⟩ := check_pre g1
  have ha := hp.an
  obtain ⟨n, hn⟩ : ∃ n : Nat, n = a0.toNat := ⟨_, rfl⟩
  have hna : (n : Int) = a0 := by omega
  have hn4 : n ≤ 4096 := by omega
  have e1 := pick_good (p := pPlus) hg hs
  have e2 := pick_good (p := pMinus) hg hs
  rw [← hn] at e1 e2
  refine Ev.bind (plus_ev hf hb hl e1) ?_
  refine Ev.bind (minus_ev hf hb hl e2) ?_
  simp only [if_true]
  by_cases hz : a0 = 0
  · rw [show (a0 == 0) = true by simpa using hz]
    exact jt _ _
  rw [show (a0 == 0) = false by simpa using hz]
  refine Ev.step (fun _ => rfl) ?_
  simp only [lexpriorlaw14_StrictMore.j0, Bool.false_eq_true, if_false, if_neg hz]
  obtain ⟨inn, m1, m2, m3⟩ := marked_ok ha.1 ha.2 g2
  rw [m1]
  simp only [Option.bind_some]
  have t1 := Int.tmod_lt_of_pos more (show 0 < a0 by omega)
  have t2 : -a0 < Int.tmod more a0 := by
    have := Int.lt_tmod_of_pos more (show 0 < a0 by omega)
    exact this
  rw [wr64 (x := Int.tmod more a0 + a0) (by omega) (by omega)]
  obtain ⟨q, hq⟩ : ∃ q, q = Int.tmod (Int.tmod more a0 + a0) a0 := ⟨_, rfl⟩
  rw [← hq]
  have hq0 : 0 ≤ q := by rw [hq]; exact Int.tmod_nonneg _ (by omega)
  have hq1 : q < a0 := by rw [hq]; exact Int.tmod_lt_of_pos _ (by omega)
  clear hq t1 t2
  simp only [if_pos hq0, if_pos (show q < (inn.length : Int) by omega)]
  obtain ⟨in2, hi2⟩ : ∃ in2, in2 = inn.set q.toNat true := ⟨_, rfl⟩
  rw [← hi2]
  have hil : in2.length = n := by rw [hi2, List.length_set]; omega
  have him : ∀ x : Int, 0 ≤ x → x < n → (gb in2 x = true ↔ x = q ∨ x ∈ l) := fun x x0 x1 => by
    rw [hi2, gb_set hq0 x0 (by omega)]
    by_cases e : x = q
    · simp [e]
    · rw [if_neg e, m3 x x0 (by omega)]
      simp [e]
  obtain ⟨l2, hl2⟩ : ∃ l2, l2 = (irange n).filter (gb in2) := ⟨_, rfl⟩
  have hl2m : ∀ x, x ∈ l2 ↔ (0 ≤ x ∧ x < n) ∧ (x = q ∨ x ∈ l) := fun x => by
    rw [hl2, List.mem_filter, irange_mem]
    constructor
    · rintro ⟨h1, h2⟩
      exact ⟨h1, (him x h1.1 h1.2).1 h2⟩
    · rintro ⟨h1, h2⟩
      exact ⟨h1, (him x h1.1 h1.2).2 h2⟩
  have hl2r : ris l2 a0 = true := by
    rw [ris_iff]
    refine ⟨fun x hx => by have := ((hl2m x).1 hx).1; omega, ?_⟩
    rw [hl2]
    exact (irange_rise n).filter _
  have hl2w : WfRow l2 := by
    have := nodup_len' n l2 (ris_nodup hl2r) (fun x hx => ((hl2m x).1 hx).1)
    exact wf4 (by omega)
  have hg2 : gvS a0 fo rs be l2 = 0 := gv_of g1 hl2r
  obtain ⟨s2, hs2, hS2, _, _⟩ := solved_ev hg2
  have e3 := pick_good (p := pPlus) hg2 hs2
  have e4 := pick_good (p := pMinus) hg2 hs2
  rw [← hn] at e3 e4
  refine more_l0 n hna hn4 _ _ q in2 hil ?_ n 0 [] (by omega) (by simp) (by rw [List.drop_zero]; rfl)
  rw [← hl2]
  refine Ev.bind (plus_ev hf hb hl2w e3) ?_
  refine Ev.bind (minus_ev hf hb hl2w e4) ?_
  simp only [if_true]
  have rs1 := pickF_ris pPlus s2 n
  have rs2 := pickF_ris pMinus s n
  rw [hna] at rs1 rs2
  obtain ⟨pl, p1, p2, p3⟩ := marked_ok ha.1 ha.2 rs1
  obtain ⟨mi, q1, q2, q3⟩ := marked_ok ha.1 ha.2 rs2
  refine Ev.step (fun _ => rfl) ?_
  rw [show ((0 : Int) != 0) = false by decide]
  simp only [lexpriorlaw14_StrictMore.j2, Bool.false_eq_true, if_false, p1, q1, Option.bind_some]
  have hRg : ∀ x, (thyS a0 rs).Rg x ↔ 0 ≤ x ∧ x < (n : Int) := fun x => by
    show 0 ≤ x ∧ x < ((a0.toNat : Nat) : Int) ↔ _
    rw [← hn]
  have hsub : ∀ x, x ∈ l → x ∈ l2 := fun x hx => by
    have := (ris_iff.1 g2).1 x hx
    exact (hl2m x).2 ⟨⟨this.1, by omega⟩, .inr hx⟩
  have len1 : (pickF pPlus s (irange n)).length ≤ n := by have := pickF_len pPlus s (irange n); rwa [irange_len] at this
  have len2 : (pickF pMinus s2 (irange n)).length ≤ n := by have := pickF_len pMinus s2 (irange n); rwa [irange_len] at this
  refine more_l1 q pl mi hq0 (by omega) ?_ _ (by omega) ?_ _ (by omega) ?_ (pickF pPlus s (irange n)).length 0 (by omega)
  · rw [p3 q hq0 hq1, pickF_mem]
    refine ⟨⟨hq0, by omega⟩, ?_⟩
    exact (hS2.tells.fa q ((hl2m q).2 ⟨⟨hq0, by omega⟩, .inl rfl⟩)).1.2
  · intro x hx
    obtain ⟨h1, h2⟩ := pickF_mem.1 hx
    refine ⟨⟨h1.1, by omega⟩, ?_⟩
    rw [q3 x h1.1 (by omega), pickF_mem]
    refine ⟨h1, ?_⟩
    obtain ⟨k, hk⟩ := (solved_minus hS2 hok ((hRg x).2 h1)).1 h2
    exact (solved_minus hS hok ((hRg x).2 h1)).2 ⟨k, mi_more hsub hk⟩
  · intro x hx
    obtain ⟨h1, h2⟩ := pickF_mem.1 hx
    refine ⟨⟨h1.1, by omega⟩, ?_⟩
    rw [p3 x h1.1 (by omega), pickF_mem]
    refine ⟨h1, ?_⟩
    obtain ⟨k, hk⟩ := (solved_plus hS ((hRg x).2 h1)).1 h2
    exact (solved_plus hS2 ((hRg x).2 h1)).2 ⟨k, pl_more hsub hk⟩
end Go.Proofs.Ythlmpioijjnmnaa.P
namespace Go.Proofs.Ythlmpioijjnmnaa.Pure
open Go.RowKit Go.Proofs.YthlmpioijjnmnaaW.PrintWords Go.Proofs.Ythlmpioijjnmnaa.P
theorem StrictMore : ∀ t, WfThy t → ∀ l, WfInts l → ∀ a, (Lit.int .i64 a).wf = true → ∃ k, lexpriorlaw14_StrictMore.f k t.1 t.2.1 t.2.2.1 t.2.2.2 l a = some true := fun _ ht _ hl _ ha =>
  (strictMore_ev ht.2.1.1 ht.2.2.2.1 hl.1 (P.i64_of ha)).rounds
end Go.Proofs.Ythlmpioijjnmnaa.Pure
