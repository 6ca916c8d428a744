/- Strict proof is coherent and closed: each literal has just the tag whose condition holds by what is told, or neither: over the functions that the program was printed as. -/
import Derived.Test.YthlmpioijjnmnaaStrP
import Derived.Test.YthlmpioijjnmnaaPx
namespace Go.Proofs.Ythlmpioijjnmnaa.P
open Go.RowKit Go.Proofs.YthlmpioijjnmnaaW.PrintWords Go.Proofs.Ythlmpioijjnmnaa.K Go.Proofs.Ythlmpioijjnmnaa.S
set_option linter.unusedVariables false
set_option linter.unusedSimpArgs false

theorem max_of : ∀ l : List Int, ∃ K : Int, 0 ≤ K ∧ ∀ x, x ∈ l → x ≤ K
  | [] => ⟨0, by omega, fun x hx => by simp at hx⟩
  | y :: l => by
    obtain ⟨K, h0, h1⟩ := max_of l
    by_cases h : y ≤ K
    · refine ⟨K, h0, fun x hx => ?_⟩
      rcases List.mem_cons.1 hx with rfl | hx
      · exact h
      · exact h1 x hx
    · refine ⟨y, by omega, fun x hx => ?_⟩
      rcases List.mem_cons.1 hx with rfl | hx
      · exact Int.le_refl _
      · have := h1 x hx
        omega
theorem ga_bound (l : List Int) : ∃ K : Int, 0 ≤ K ∧ ∀ q, ga l q ≤ K := by
  obtain ⟨K, h0, h1⟩ := max_of l
  refine ⟨K, h0, fun q => ?_⟩
  unfold ga
  rw [List.getD_eq_getElem?_getD]
  by_cases h : q.toNat < l.length
  · rw [List.getElem?_eq_getElem h]
    exact h1 _ (List.getElem_mem h)
  · rw [List.getElem?_eq_none (by omega)]
    exact h0
theorem neither_ev {a0 : Int} {fo be : List (List Int)} {rs : List S37} {l : List Int} (hf : WfRows fo) (hb : WfRows be) (hl : WfRow l) {r : List Int × Int} (h : pickT (gvS a0 fo rs be l) a0 (tri rs) l pNone = some r) : Ev (fun k => strict_Neither.f k a0 fo rs be l) r := by
  unfold strict_Neither.f
  refine Ev.bind (given_ev hf hb hl) ?_
  exact Ev.congr (fun _ => h) (Ev.now r)
/-- Three kinds, of which each has just one. -/
theorem three_len (p q r : Int → Bool) : ∀ l : List Int, (∀ x, x ∈ l → (p x = true ∧ q x = false ∧ r x = false) ∨ (p x = false ∧ q x = true ∧ r x = false) ∨ (p x = false ∧ q x = false ∧ r x = true)) → (l.filter p).length + (l.filter q).length + (l.filter r).length = l.length
  | [], _ => rfl
  | x :: l, h => by
    have ih := three_len p q r l (fun y hy => h y (List.mem_cons_of_mem _ hy))
    simp only [List.filter_cons, List.length_cons]
    rcases h x (List.mem_cons_self ..) with ⟨a, b, c⟩ | ⟨a, b, c⟩ | ⟨a, b, c⟩ <;> simp only [a, b, c, if_true, if_false, Bool.false_eq_true, List.length_cons] <;> omega
theorem three_kinds (s : SV) (q : Int) (h : gb s.plus q = true → gb s.minus q = false) : (pPlus s q = true ∧ pMinus s q = false ∧ pNone s q = false) ∨ (pPlus s q = false ∧ pMinus s q = true ∧ pNone s q = false) ∨ (pPlus s q = false ∧ pMinus s q = false ∧ pNone s q = true) := by
  unfold pPlus pMinus pNone
  cases e1 : gb s.plus q
  · cases e2 : gb s.minus q
    · exact .inr (.inr ⟨rfl, rfl, rfl⟩)
    · exact .inr (.inl ⟨rfl, rfl, rfl⟩)
  · rw [h e1]
    exact .inl ⟨rfl, rfl, rfl⟩
theorem sum_wrap {A B C : List Int} {n : Nat} {a0 : Int} (h : (n : Int) = a0) (h4 : n ≤ 4096) (e : A.length + B.length + C.length = n) : wrap64 (wrap64 ((A.length : Int) + (B.length : Int)) + (C.length : Int)) = a0 := by
  rw [wr64 (x := (A.length : Int) + (B.length : Int)) (by omega) (by omega), wr64 (by omega) (by omega)]
  omega
theorem room_of {a0 : Int} (h : a0 ≤ 4096) : a0.toNat ≤ 35184372088832 := by omega
theorem three_sum (s : SV) (n : Nat) (pm : ∀ q : Int, 0 ≤ q → q < n → gb s.plus q = true → gb s.minus q = false) : (pickF pPlus s (irange n)).length + (pickF pMinus s (irange n)).length + (pickF pNone s (irange n)).length = n := by
  rw [pickF_filter, pickF_filter, pickF_filter]
  have := three_len (pPlus s) (pMinus s) (pNone s) (irange n) (fun q hq => by
    obtain ⟨q0, q1⟩ := irange_mem.1 hq
    exact three_kinds s q (pm q q0 q1))
  rw [this]
  unfold irange
  rw [List.length_map, List.length_range]
theorem cond_l3 {a0 : Int} {fo be : List (List Int)} {rs : List S37} (n : Nat) (hn : (n : Int) = a0) (hn4 : n ≤ 4096) (x11 x13 : List Bool) (x17 : List Int) (h11 : x11.length = n) (h13 : x13.length = n) (h17 : x17.length = n)
    (hp : ∀ q : Int, 0 ≤ q → q < n → (gb x11 q = true ↔ ga x17 q = 1)) (hm : ∀ q : Int, 0 ≤ q → q < n → (gb x13 q = true ↔ ga x17 q = 0)) :
    ∀ (f i : Nat), i + f = n → Ev (fun k => lexpriorlaw14_StrictConditions.l3 k x11 x13 x17 (i : Int) a0 fo rs be) true := by
  intro f
  induction f with
  | zero =>
    intro i hi
    refine Ev.step (fun _ => rfl) ?_
    simp only [lexpriorlaw14_StrictConditions.l3, if_neg (show ¬ (i : Int) < a0 by omega)]
    exact Ev.now _
  | succ f ih =>
    intro i hi
    have p1 : rdOf false x11 (i : Int) = true ↔ rd x17 (i : Int) = 1 := hp i (by omega) (by omega)
    have m1 : rdOf false x13 (i : Int) = true ↔ rd x17 (i : Int) = 0 := hm i (by omega) (by omega)
    have n := ih (i + 1) (by omega)
    refine Ev.step (fun _ => rfl) ?_
    simp only [lexpriorlaw14_StrictConditions.l3, if_pos (show (i : Int) < a0 by omega), if_pos (show (0 : Int) ≤ (i : Int) by omega), if_pos (show (i : Int) < (x11.length : Int) by omega), if_pos (show (i : Int) < (x13.length : Int) by omega), if_pos (show (i : Int) < (x17.length : Int) by omega), wr_succ (show i ≤ 140737488351232 by omega)]
    cases e1 : rdOf false x11 (i : Int)
    · have e3 : ¬ rd x17 (i : Int) = 1 := fun h => by rw [p1.2 h] at e1; cases e1
      have e3' : (rd x17 (i : Int) == 1) = false := by simpa using e3
      have e4 : (rdOf false x13 (i : Int) != (rd x17 (i : Int) == 0)) = false := by
        cases e2 : rdOf false x13 (i : Int)
        · have : ¬ rd x17 (i : Int) = 0 := fun h => by rw [m1.2 h] at e2; cases e2
          have : (rd x17 (i : Int) == 0) = false := by simpa using this
          rw [this]; rfl
        · rw [m1.1 e2]; rfl
      simp only [e3', e4, Bool.false_eq_true, if_false, bne_self_eq_false]
      exact n
    · have e3 := p1.1 e1
      have e2 : rdOf false x13 (i : Int) = false := by
        cases e : rdOf false x13 (i : Int)
        · rfl
        · have := m1.1 e; omega
      have e3' : (rd x17 (i : Int) == 1) = true := by rw [e3]; rfl
      have e4' : (rd x17 (i : Int) == 0) = false := by rw [e3]; rfl
      simp only [e2, e3', e4', Bool.false_eq_true, if_false, if_true, bne_self_eq_false]
      exact n
/-- What may be told by the rules below one. -/
def CanA (T : Thy) (l : List Int) (s : SV) (i : Int) (q : Int) : Prop := q ∈ l ∨ ∃ r, (T.St r ∧ r < i) ∧ T.hd r = q ∧ ∀ b, b ∈ T.bd r → gb s.plus b = true
def CanB (T : Thy) (s : SV) (i : Int) (q : Int) : Prop := ∃ r, (T.St r ∧ r < i) ∧ T.hd r = q ∧ ∀ b, b ∈ T.bd r → gb s.minus b = false
def CanI (T : Thy) (l : List Int) (s : SV) (i : Int) (n : Nat) (c : List Int) : Prop := c.length = n ∧ ∀ q : Int, 0 ≤ q → q < n → (ga c q = 1 ↔ CanA T l s i q) ∧ (ga c q = 0 ↔ ¬ CanA T l s i q ∧ ¬ CanB T s i q)
theorem can_skip {T : Thy} {l : List Int} {s : SV} {n : Nat} {c : List Int} {i : Int} (h : CanI T l s i n c) (hs : ¬ T.St i) : CanI T l s (i + 1) n c := by
  have e : ∀ r, (T.St r ∧ r < i + 1) ↔ (T.St r ∧ r < i) := fun r => ⟨fun ⟨a, b⟩ => ⟨a, by
    by_cases x : r = i
    · subst x; exact absurd a hs
    · omega⟩, fun ⟨a, b⟩ => ⟨a, by omega⟩⟩
  unfold CanI CanA CanB
  simp only [e]
  exact h
theorem can_step {T : Thy} {l : List Int} {s : SV} {n : Nat} {c : List Int} {i : Int} (h : CanI T l s i n c) (hs : T.St i) (hh : 0 ≤ T.hd i ∧ T.hd i < n) {al de : Bool} (ha : al = true ↔ ∀ b, b ∈ T.bd i → gb s.plus b = true) (hd : de = true ↔ ∃ b, b ∈ T.bd i ∧ gb s.minus b = true)
    {c' : List Int} (hc : c' = if al = true then c.set (T.hd i).toNat 1 else if de = true then c else if ga c (T.hd i) = 0 then c.set (T.hd i).toNat 2 else c) (hx : al = true → de = false) : CanI T l s (i + 1) n c' := by
  obtain ⟨h1, h2⟩ := h
  have hl : c'.length = n := by
    rw [hc]
    split
    · rw [List.length_set]; exact h1
    · split
      · exact h1
      · split
        · rw [List.length_set]; exact h1
        · exact h1
  have eA : ∀ q, CanA T l s (i + 1) q ↔ CanA T l s i q ∨ (T.hd i = q ∧ al = true) := fun q => by
    unfold CanA
    constructor
    · rintro (a | ⟨r, ⟨a1, a2⟩, a3, a4⟩)
      · exact .inl (.inl a)
      · by_cases e : r = i
        · subst e; exact .inr ⟨a3, ha.2 a4⟩
        · exact .inl (.inr ⟨r, ⟨a1, by omega⟩, a3, a4⟩)
    · rintro ((a | ⟨r, ⟨a1, a2⟩, a3, a4⟩) | ⟨a1, a2⟩)
      · exact .inl a
      · exact .inr ⟨r, ⟨a1, by omega⟩, a3, a4⟩
      · exact .inr ⟨i, ⟨hs, by omega⟩, a1, ha.1 a2⟩
  have eB : ∀ q, CanB T s (i + 1) q ↔ CanB T s i q ∨ (T.hd i = q ∧ de = false) := fun q => by
    unfold CanB
    constructor
    · rintro ⟨r, ⟨a1, a2⟩, a3, a4⟩
      by_cases e : r = i
      · subst e
        refine .inr ⟨a3, ?_⟩
        cases e : de
        · rfl
        · obtain ⟨b, b1, b2⟩ := hd.1 e
          rw [a4 b b1] at b2; cases b2
      · exact .inl ⟨r, ⟨a1, by omega⟩, a3, a4⟩
    · rintro (⟨r, ⟨a1, a2⟩, a3, a4⟩ | ⟨a1, a2⟩)
      · exact ⟨r, ⟨a1, by omega⟩, a3, a4⟩
      · refine ⟨i, ⟨hs, by omega⟩, a1, fun b hb => ?_⟩
        cases e : gb s.minus b
        · rfl
        · rw [hd.2 ⟨b, hb, e⟩] at a2; cases a2
  refine ⟨hl, fun q q0 q1 => ?_⟩
  obtain ⟨g1, g2⟩ := h2 q q0 q1
  rw [eA, eB]
  by_cases e : T.hd i = q
  · have st : ∀ v, ga (c.set (T.hd i).toNat v) q = v := fun v => by rw [ga_set hh.1 q0 (by omega), if_pos e.symm]
    rw [hc]
    by_cases e1 : al = true
    · rw [if_pos e1, st]
      simp [e, e1]
    · rw [if_neg e1]
      by_cases e2 : de = true
      · rw [if_pos e2, g1, g2]
        simp [e, e1, e2]
      · rw [if_neg e2]
        have e2' : de = false := by simpa using e2
        by_cases e3 : ga c q = 0
        · rw [if_pos (show ga c (T.hd i) = 0 by rw [e]; exact e3), st]
          have := (g2.1 e3).1
          simp [e, e1, e2', this]
        · rw [if_neg (show ¬ ga c (T.hd i) = 0 by rw [e]; exact e3), g1]
          have : ¬ (¬ CanA T l s i q ∧ ¬ CanB T s i q) := fun x => e3 (g2.2 x)
          simp only [e1, e2', e3, e, false_iff, Bool.false_eq_true, and_false, or_false, and_true, true_and, or_true, not_true_eq_false]
  · have st : ∀ v, ga (c.set (T.hd i).toNat v) q = ga c q := fun v => by rw [ga_set hh.1 q0 (by omega), if_neg (fun x => e x.symm)]
    have : ga c' q = ga c q := by
      rw [hc]
      split
      · exact st 1
      · split
        · rfl
        · split
          · exact st 2
          · rfl
    rw [this, g1, g2]
    simp [e]
theorem cond_l0 {a0 : Int} {fo be : List (List Int)} {rs : List S37} (n : Nat) (hn : (n : Int) = a0) (hn4 : n ≤ 4096) (x11 x13 x15 : List Bool) (h15 : x15.length = n)
    (next : ∀ c : List Int, c.length = n → (∀ q : Int, 0 ≤ q → q < n → ga c q = if gb x15 q = true then 1 else 0) → Ev (fun k => lexpriorlaw14_StrictConditions.l1 k x11 x13 c 0 a0 fo rs be) true) :
    ∀ (f i : Nat) (c : List Int), i + f = n → c.length = n → (∀ q : Int, 0 ≤ q → q < n → ga c q = if q < (i : Int) ∧ gb x15 q = true then 1 else 0) → Ev (fun k => lexpriorlaw14_StrictConditions.l0 k x11 x13 x15 c (i : Int) a0 fo rs be) true := by
  intro f
  induction f with
  | zero =>
    intro i c hi hc hg
    refine Ev.step (fun _ => rfl) ?_
    simp only [lexpriorlaw14_StrictConditions.l0, if_neg (show ¬ (i : Int) < a0 by omega)]
    refine next c hc (fun q q0 q1 => ?_)
    rw [hg q q0 q1]
    simp [show q < (i : Int) by omega]
  | succ f ih =>
    intro i c hi hc hg
    refine Ev.step (fun _ => rfl) ?_
    simp only [lexpriorlaw14_StrictConditions.l0, if_pos (show (i : Int) < a0 by omega), if_pos (show (0 : Int) ≤ (i : Int) by omega), if_pos (show (i : Int) < (x15.length : Int) by omega), if_pos (show (i : Int) < (c.length : Int) by omega), wr_succ (show i ≤ 140737488351232 by omega)]
    cases e : rdOf false x15 (i : Int)
    · simp only [Bool.false_eq_true, if_false]
      have e : gb x15 (i : Int) = false := e
      refine ih (i + 1) c (by omega) hc (fun q q0 q1 => ?_)
      rw [hg q q0 q1]
      by_cases x : q = (i : Int)
      · subst x; simp [e]
      · by_cases y : q < (i : Int)
        · simp [y, show q < (i : Int) + 1 by omega]
        · rw [if_neg (fun h => y h.1), if_neg (fun h => by have := h.1; omega)]
    · simp only [if_true]
      have e : gb x15 (i : Int) = true := e
      refine ih (i + 1) _ (by omega) (by rw [List.length_set]; exact hc) (fun q q0 q1 => ?_)
      rw [ga_set (show (0 : Int) ≤ (i : Int) by omega) q0 (by omega), hg q q0 q1]
      by_cases x : q = (i : Int)
      · subst x; rw [if_pos rfl, if_pos ⟨by omega, e⟩]
      · rw [if_neg x]
        by_cases y : q < (i : Int)
        · simp [y, show q < (i : Int) + 1 by omega]
        · rw [if_neg (fun h => y h.1), if_neg (fun h => by have := h.1; omega)]
theorem cond_l2 {a0 : Int} {fo be : List (List Int)} {rs : List S37} {l : List Int} {s : SV} (n : Nat) (hn : (n : Int) = a0) (hn4 : n ≤ 4096) (hr4 : rs.length ≤ 4096) (x11 x13 : List Bool) (h11 : x11.length = n) (h13 : x13.length = n)
    (hp : ∀ q : Int, 0 ≤ q → q < n → gb x11 q = gb s.plus q) (hm : ∀ q : Int, 0 ≤ q → q < n → gb x13 q = gb s.minus q) (pm : ∀ q : Int, 0 ≤ q → q < n → gb s.plus q = true → gb s.minus q = false)
    (i : Nat) (hi : i < rs.length) (f0 f1 : Int) (bd : List Int) (e1 : (thyS a0 rs).hd i = f1) (e2 : (thyS a0 rs).bd i = bd) (hst : (thyS a0 rs).St i) (hh : 0 ≤ f1 ∧ f1 < n) (hb : ∀ b, b ∈ bd → 0 ≤ b ∧ b < (n : Int)) (hbl : bd.length ≤ 4096) (hn0 : bd.length = 0 ∨ 0 < bd.length)
    (c : List Int) (hc : CanI (thyS a0 rs) l s i n c) (next : ∀ c', CanI (thyS a0 rs) l s (i + 1) n c' → Ev (fun k => lexpriorlaw14_StrictConditions.l1 k x11 x13 c' ((i + 1 : Nat) : Int) a0 fo rs be) true) :
    ∀ (f j : Nat) (al de : Bool), j + f = bd.length → (al = true ↔ ∀ b, b ∈ bd.take j → gb s.plus b = true) → (de = true ↔ ∃ b, b ∈ bd.take j ∧ gb s.minus b = true) → Ev (fun k => lexpriorlaw14_StrictConditions.l2 k x11 x13 c (i : Int) al de (j : Int) a0 fo rs be f0 f1 bd) true := by
  intro f
  induction f with
  | zero =>
    intro j al de hj ha hd
    rw [List.take_of_length_le (by omega)] at ha hd
    have hx : al = true → de = false ∨ bd.length = 0 := fun h => by
      cases e : de
      · exact .inl rfl
      · obtain ⟨b, b1, b2⟩ := hd.1 e
        have := pm b (hb b b1).1 (hb b b1).2 (ha.1 h b b1)
        rw [b2] at this; cases this
    have hx : al = true → de = false := fun h => by
      rcases hx h with h | h
      · exact h
      · cases e : de
        · rfl
        · obtain ⟨b, b1, _⟩ := hd.1 e
          have := List.length_pos_of_mem b1
          omega
    have st := @can_step (thyS a0 rs) l s n c i hc hst (by rw [e1]; exact hh) al de (by rw [e2]; exact ha) (by rw [e2]; exact hd) _ rfl hx
    rw [e1] at st
    have st' := next _ st
    clear st
    have hcl := hc.1
    refine Ev.step (fun _ => rfl) ?_
    simp only [lexpriorlaw14_StrictConditions.l2, if_neg (show ¬ (j : Int) < (bd.length : Int) by omega), if_pos hh.1, if_pos (show f1 < (c.length : Int) by omega), wr_succ (show i ≤ 140737488351232 by omega), Option.bind_some]
    cases al
    · cases de
      · simp only [Bool.false_eq_true, if_false] at st' ⊢
        by_cases e : rd c f1 = 0
        · have e' : ga c f1 = 0 := e
          rw [if_pos e'] at st'
          simp only [if_pos e]
          exact st'
        · have e' : ¬ ga c f1 = 0 := e
          rw [if_neg e'] at st'
          simp only [if_neg e]
          exact st'
      · simp only [Bool.false_eq_true, if_false, if_true] at st' ⊢
        exact st'
    · have hde := hx rfl
      subst hde
      have e : ¬ rd (c.set f1.toNat 1) f1 = 0 := by
        have : ga (c.set f1.toNat 1) f1 = 1 := by rw [ga_set hh.1 hh.1 (by omega), if_pos rfl]
        show ¬ ga (c.set f1.toNat 1) f1 = 0
        omega
      simp only [Bool.false_eq_true, if_false, if_true, if_neg e] at st' ⊢
      exact st'
  | succ f ih =>
    intro j al de hj ha hd
    have hjl : j < bd.length := by omega
    obtain ⟨b, hbe⟩ : ∃ b, b = rd bd (j : Int) := ⟨_, rfl⟩
    have hbj : bd[j] = b := by rw [hbe, rd_get hjl]
    obtain ⟨b0, b1⟩ := hb b (by rw [← hbj]; exact List.getElem_mem hjl)
    have tk : bd.take (j + 1) = bd.take j ++ [b] := by rw [List.take_add_one, List.getElem?_eq_getElem hjl, hbj]; rfl
    have g1 : rdOf false x11 b = gb s.plus b := hp b b0 b1
    have g2 : rdOf false x13 b = gb s.minus b := hm b b0 b1
    have go : ∀ al' de', al' = (al && gb s.plus b) → de' = (de || gb s.minus b) → Ev (fun k => lexpriorlaw14_StrictConditions.l2 k x11 x13 c (i : Int) al' de' ((j + 1 : Nat) : Int) a0 fo rs be f0 f1 bd) true := by
      intro al' de' ea ed
      refine ih (j + 1) al' de' (by omega) ?_ ?_
      · rw [tk, ea, Bool.and_eq_true, ha]
        constructor
        · rintro ⟨x, y⟩ z hz
          rcases List.mem_append.1 hz with hz | hz
          · exact x z hz
          · rw [List.mem_singleton.1 hz]; exact y
        · intro x
          exact ⟨fun z hz => x z (List.mem_append_left _ hz), x b (List.mem_append_right _ (by simp))⟩
      · rw [tk, ed, Bool.or_eq_true, hd]
        constructor
        · rintro (⟨z, z1, z2⟩ | y)
          · exact ⟨z, List.mem_append_left _ z1, z2⟩
          · exact ⟨b, List.mem_append_right _ (by simp), y⟩
        · rintro ⟨z, z1, z2⟩
          rcases List.mem_append.1 z1 with hz | hz
          · exact .inl ⟨z, hz, z2⟩
          · rw [List.mem_singleton.1 hz] at z2; exact .inr z2
    refine Ev.step (fun _ => rfl) ?_
    simp only [lexpriorlaw14_StrictConditions.l2, if_pos (show (j : Int) < (bd.length : Int) by omega), if_pos (show (0 : Int) ≤ (j : Int) by omega), ← hbe, if_pos b0, if_pos (show b < (x11.length : Int) by omega), if_pos (show b < (x13.length : Int) by omega), g1, g2, wr_succ (show j ≤ 140737488351232 by omega)]
    cases al <;> cases de <;> simp only [Bool.false_eq_true, if_false, if_true] <;> exact go _ _ (by simp) (by simp)
theorem cond_l1 {a0 : Int} {fo be : List (List Int)} {rs : List S37} {l : List Int} {s : SV} (hpre : Pre a0 fo rs) (n : Nat) (hn : (n : Int) = a0) (hn4 : n ≤ 4096) (x11 x13 : List Bool) (h11 : x11.length = n) (h13 : x13.length = n)
    (hp : ∀ q : Int, 0 ≤ q → q < n → gb x11 q = gb s.plus q) (hm : ∀ q : Int, 0 ≤ q → q < n → gb x13 q = gb s.minus q) (pm : ∀ q : Int, 0 ≤ q → q < n → gb s.plus q = true → gb s.minus q = false)
    (next : ∀ c', CanI (thyS a0 rs) l s rs.length n c' → Ev (fun k => lexpriorlaw14_StrictConditions.l3 k x11 x13 c' 0 a0 fo rs be) true) :
    ∀ (f i : Nat) (c : List Int), i + f = rs.length → CanI (thyS a0 rs) l s i n c → Ev (fun k => lexpriorlaw14_StrictConditions.l1 k x11 x13 c (i : Int) a0 fo rs be) true := by
  have h4 := hpre.r4
  intro f
  induction f with
  | zero =>
    intro i c hi hc
    refine Ev.step (fun _ => rfl) ?_
    simp only [lexpriorlaw14_StrictConditions.l1, if_neg (show ¬ (i : Int) < (rs.length : Int) by omega)]
    have : i = rs.length := by omega
    subst this
    exact next c hc
  | succ f ih =>
    intro i c hi hc
    have hil : i < rs.length := by omega
    obtain ⟨t1, t2, t3⟩ := thyS_rule (a0 := a0) (rs := rs) (r := (i : Int)) (by omega) (by omega)
    refine Ev.step (fun _ => rfl) ?_
    simp only [lexpriorlaw14_StrictConditions.l1, if_pos (show (i : Int) < (rs.length : Int) by omega), if_pos (show (0 : Int) ≤ (i : Int) by omega), wr_succ (show i ≤ 140737488351232 by omega)]
    have hru := rule_of (hpre.rule _ (rdT_mem (l := rs) (j := i) hil))
    by_cases e : (rd_T37 rs (i : Int)).f0 = 1
    · simp only [if_pos e]
      have hst : (thyS a0 rs).St i := ⟨⟨by omega, by show (i : Int) < (rs.length : Int); omega⟩, by rw [t1]; exact e⟩
      have hri := hru.2.2.2
      have hbl := nodup_len' n _ (ris_nodup hri) (fun z hz => by
        have := (ris_iff.1 hri).1 z hz
        omega)
      refine cond_l2 n hn hn4 h4 x11 x13 h11 h13 hp hm pm i hil _ _ _ t2 t3 hst (by have := hru.2.1; omega) (fun b hb => by have := (ris_iff.1 hri).1 b hb; omega) (by omega) (by omega) c hc (fun c' hc' => ih (i + 1) c' (by omega) hc') _ 0 true false (Nat.zero_add _) (by simp) (by simp)
    · simp only [if_neg e]
      refine ih (i + 1) c (by omega) ?_
      have := can_skip hc (fun h => e (t1.symm.trans h.2))
      exact this
theorem strictConditions_ev {a0 : Int} {fo be : List (List Int)} {rs : List S37} {l : List Int} (hf : WfRows fo) (hb : WfRows be) (hl : WfRow l) : Ev (fun k => lexpriorlaw14_StrictConditions.f k a0 fo rs be l) true := by
  unfold lexpriorlaw14_StrictConditions.f
  refine Ev.bind works_ev ?_
  simp only [if_true]
  by_cases hg : gvS a0 fo rs be l = 0
  rotate_left
  · refine Ev.bind (plus_ev hf hb hl (pick_bad hg)) ?_
    refine Ev.bind (minus_ev hf hb hl (pick_bad hg)) ?_
    refine Ev.bind (neither_ev hf hb hl (pick_bad hg)) ?_
    simp only [if_neg hg, if_true]
    have w0 : wrap64 0 = 0 := wr64 (by omega) (by omega)
    show Ev (fun _ => some (wrap64 (wrap64 (0 + 0) + 0) == 0)) true
    simp only [Int.add_zero, w0]
    rw [show ((0 : Int) == 0) = true from rfl]
    exact Ev.now true
  obtain ⟨s, hs, hS, hok, _⟩ := solved_ev hg
  obtain ⟨g1, g2⟩ := gv_zero hg
  obtain ⟨hpre, _⟩ := check_pre g1
  have ha := hpre.an
  obtain ⟨n, hn⟩ : ∃ n : Nat, n = a0.toNat := ⟨_, rfl⟩
  have hna : (n : Int) = a0 := by omega
  have hn4 : n ≤ 4096 := by omega
  have e1 := pick_good (p := pPlus) hg hs
  have e2 := pick_good (p := pMinus) hg hs
  have e3 := pick_good (p := pNone) hg hs
  rw [← hn] at e1 e2 e3
  have r1 := pickF_ris pPlus s n
  have r2 := pickF_ris pMinus s n
  have A1 : ∀ x, x ∈ pickF pPlus s (irange n) ↔ (0 ≤ x ∧ x < n) ∧ pPlus s x = true := fun x => pickF_mem
  have A2 : ∀ x, x ∈ pickF pMinus s (irange n) ↔ (0 ≤ x ∧ x < n) ∧ pMinus s x = true := fun x => pickF_mem
  have A3 := three_sum s n
  obtain ⟨A, hA⟩ : ∃ A, A = pickF pPlus s (irange n) := ⟨_, rfl⟩
  obtain ⟨B, hB⟩ : ∃ B, B = pickF pMinus s (irange n) := ⟨_, rfl⟩
  obtain ⟨C, hC⟩ : ∃ C, C = pickF pNone s (irange n) := ⟨_, rfl⟩
  rw [← hA] at e1 r1 A1 A3
  rw [← hB] at e2 r2 A2 A3
  rw [← hC] at e3 A3
  clear hA hB hC
  refine Ev.bind (plus_ev hf hb hl e1) ?_
  refine Ev.bind (minus_ev hf hb hl e2) ?_
  refine Ev.bind (neither_ev hf hb hl e3) ?_
  rw [hna] at r1 r2
  obtain ⟨x11, p1, p2, p3⟩ := marked_ok ha.1 ha.2 r1
  obtain ⟨x13, m1, m2, m3⟩ := marked_ok ha.1 ha.2 r2
  obtain ⟨x15, c1, c2, c3⟩ := marked_ok ha.1 ha.2 g2
  have hRg : ∀ x, (thyS a0 rs).Rg x ↔ 0 ≤ x ∧ x < (n : Int) := fun x => by
    show 0 ≤ x ∧ x < ((a0.toNat : Nat) : Int) ↔ _
    rw [← hn]
  have pm : ∀ q : Int, 0 ≤ q → q < n → gb s.plus q = true → gb s.minus q = false := fun q q0 q1 h => by
    have hr := (hRg q).2 ⟨q0, q1⟩
    cases e : gb s.minus q
    · rfl
    · obtain ⟨j, hj⟩ := (solved_plus hS hr).1 h
      obtain ⟨k, hk⟩ := (solved_minus hS hok hr).1 e
      exact (pl_mi hj hk).elim
  have hP : ∀ q : Int, 0 ≤ q → q < n → gb x11 q = gb s.plus q := fun q q0 q1 => by
    have : gb x11 q = true ↔ gb s.plus q = true := by
      rw [p3 q q0 (by omega), A1]
      exact ⟨fun h => h.2, fun h => ⟨⟨q0, q1⟩, h⟩⟩
    exact Bool.eq_iff_iff.2 this
  have hM : ∀ q : Int, 0 ≤ q → q < n → gb x13 q = gb s.minus q := fun q q0 q1 => by
    have : gb x13 q = true ↔ gb s.minus q = true := by
      rw [m3 q q0 (by omega), A2]
      exact ⟨fun h => h.2, fun h => ⟨⟨q0, q1⟩, h⟩⟩
    exact Bool.eq_iff_iff.2 this
  simp only [if_true]
  refine Ev.bind (Ev.congr (fun _ => p1) (Ev.now (x11, true))) ?_
  refine Ev.bind (Ev.congr (fun _ => m1) (Ev.now (x13, true))) ?_
  have sum := A3 pm
  have hw := sum_wrap hna hn4 sum
  simp only [if_true, if_pos hw]
  clear hw
  refine Ev.bind (Ev.congr (fun _ => c1) (Ev.now (x15, true))) ?_
  simp only [if_pos ha.1, if_pos (room_of ha.2)]
  obtain ⟨K, K0, K1⟩ := ga_bound s.hgt
  refine cond_l0 n hna hn4 x11 x13 x15 (by omega) (fun c hc hcg => ?_) n 0 _ (by omega) (by rw [List.length_replicate]; omega) (fun q q0 q1 => by
    rw [if_neg (fun h => by have := h.1; omega)]
    exact Go.Proofs.Ythlmpioijjnmnaa.K.ga_rep _ _)
  refine cond_l1 (l := l) (s := s) hpre n hna hn4 x11 x13 (by omega) (by omega) hP hM pm (fun c' hc' => ?_) rs.length 0 c (by omega) ⟨hc, fun q q0 q1 => ?_⟩
  · obtain ⟨hcl, hci⟩ := hc'
    have hm : ∀ r, (thyS a0 rs).St r → r < (rs.length : Int) := fun r h => h.1.2
    refine cond_l3 n hna hn4 x11 x13 c' (by omega) (by omega) hcl (fun q q0 q1 => ?_) (fun q q0 q1 => ?_) n 0 (by omega)
    · have hr := (hRg q).2 ⟨q0, q1⟩
      rw [hP q q0 q1, (hci q q0 q1).1]
      constructor
      · intro h
        rcases hS.tells.pa q ⟨hr, h⟩ with h | ⟨r, h1, h2, h3⟩
        · exact .inl h
        · exact .inr ⟨r, ⟨h1, hm r h1⟩, h2, fun b hb => (h3 b hb).1.2⟩
      · rintro (h | ⟨r, ⟨h1, _⟩, h2, h3⟩)
        · exact (hS.tells.fa q h).1.2
        · have := (hS.tells.pc r K K0 h1 (fun b hb => ⟨⟨hok.bd r h1 b hb, h3 b hb⟩, K1 b⟩)).1.2
          rwa [h2] at this
    · have hr := (hRg q).2 ⟨q0, q1⟩
      rw [hM q q0 q1, (hci q q0 q1).2]
      constructor
      · intro h
        obtain ⟨h1, h2⟩ := hS.tells.mi q ⟨hr, h⟩
        constructor
        · rintro (h3 | ⟨r, ⟨h3, _⟩, h4, h5⟩)
          · exact h1 h3
          · obtain ⟨b, b1, b2, _⟩ := h2 r h3 h4
            have hb := (hRg b).1 b2.1
            have := pm b hb.1 hb.2 (h5 b b1)
            rw [b2.2] at this; cases this
        · rintro ⟨r, ⟨h3, _⟩, h4, h5⟩
          obtain ⟨b, b1, b2, _⟩ := h2 r h3 h4
          have := h5 b b1
          rw [b2.2] at this; cases this
      · rintro ⟨h1, h2⟩
        refine (hS.tells.mc q K K0 hr (fun hf => h1 (.inl hf)) (fun r h3 h4 => ?_)).1.2
        apply Classical.byContradiction
        intro hn
        refine h2 ⟨r, ⟨h3, hm r h3⟩, h4, fun b hb => ?_⟩
        cases e : gb s.minus b
        · rfl
        · exact absurd ⟨b, hb, ⟨hok.bd r h3 b hb, e⟩, K1 b⟩ hn
  · have hA : CanA (thyS a0 rs) l s ((0 : Nat) : Int) q ↔ q ∈ l := by
      unfold CanA
      exact ⟨fun h => h.elim id (fun ⟨r, ⟨h1, h2⟩, _⟩ => by have := h1.1.1; omega), .inl⟩
    have hB : ¬ CanB (thyS a0 rs) s ((0 : Nat) : Int) q := fun ⟨r, ⟨h1, h2⟩, _⟩ => by have := h1.1.1; omega
    rw [hcg q q0 q1, hA, ← c3 q q0 (by omega)]
    cases gb x15 q
    · exact ⟨by simp, fun _ => ⟨by simp, hB⟩, fun _ => rfl⟩
    · exact ⟨by simp, by simp⟩
end Go.Proofs.Ythlmpioijjnmnaa.P
namespace Go.Proofs.Ythlmpioijjnmnaa.Pure
open Go.RowKit Go.Proofs.YthlmpioijjnmnaaW.PrintWords Go.Proofs.Ythlmpioijjnmnaa.P
theorem StrictConditions : ∀ t, WfThy t → ∀ l, WfInts l → ∃ k, lexpriorlaw14_StrictConditions.f k t.1 t.2.1 t.2.2.1 t.2.2.2 l = some true := fun _ ht _ hl =>
  (strictConditions_ev ht.2.1.1 ht.2.2.2.1 hl.1).rounds
end Go.Proofs.Ythlmpioijjnmnaa.Pure
