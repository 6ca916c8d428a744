/- With the facts of Least alone the literal has +D; they are facts: over the functions that the program was printed as. -/
import Derived.Test.YthlmpioijjnmnaaStrP
import Derived.Test.YthlmpioijjnmnaaPx
namespace Go.Proofs.Ythlmpioijjnmnaa.P
open Go.RowKit Go.Proofs.YthlmpioijjnmnaaW.PrintWords Go.Proofs.Ythlmpioijjnmnaa.K Go.Proofs.Ythlmpioijjnmnaa.S
set_option linter.unusedVariables false
set_option linter.unusedSimpArgs false

theorem idxF_find (p : Int → Bool) : ∀ (xs : List Int) (i : Int), (∃ x, x ∈ xs ∧ p x = true) → ∃ j : Nat, j < xs.length ∧ idxF p xs i = i + j ∧ p (rd xs (j : Int)) = true ∧ rd xs (j : Int) ∈ xs
  | [], i, ⟨x, h, _⟩ => by simp at h
  | y :: xs, i, ⟨x, hx, hp⟩ => by
    by_cases h : p y = true
    · refine ⟨0, by simp, ?_, ?_, ?_⟩
      · simp only [idxF, if_pos h]
        omega
      · simpa [rd] using h
      · simp [rd]
    · have hx' : x ∈ xs := by
        rcases List.mem_cons.1 hx with rfl | hx
        · exact absurd hp h
        · exact hx
      obtain ⟨j, h1, h2, h3, h4⟩ := idxF_find p xs (i + 1) ⟨x, hx', hp⟩
      have e : rd (y :: xs) ((j + 1 : Nat) : Int) = rd xs (j : Int) := by simp [rd]
      refine ⟨j + 1, by simp; omega, ?_, ?_, ?_⟩
      · simp only [idxF, if_neg h]
        rw [h2]
        omega
      · rw [e]; exact h3
      · rw [e]; exact List.mem_cons_of_mem _ h4
/-- What is to be done, and what is marked. -/
structure Todo (T : Thy) (s : SV) (inn : List Bool) (td : List Int) : Prop where
  len : inn.length = T.n
  nd : td.Nodup
  rg : ∀ x, x ∈ td → T.Rg x ∧ gb s.plus x = true
  mem : ∀ x : Int, 0 ≤ x → x < T.n → (gb inn x = true ↔ x ∈ td)
theorem Todo.short {T : Thy} {s : SV} {inn : List Bool} {td : List Int} (h : Todo T s inn td) : td.length ≤ T.n := nodup_len' T.n td h.nd (fun x hx => (h.rg x hx).1)
theorem put_ok {T : Thy} {s : SV} (hn : T.n ≤ 4096) : ∀ (bs : List Int) (inn : List Bool) (td : List Int), Todo T s inn td → (∀ b, b ∈ bs → T.Rg b ∧ gb s.plus b = true) → ∃ inn' ex, putV T.n bs inn td = some (inn', td ++ ex) ∧ Todo T s inn' (td ++ ex) ∧ (∀ b, b ∈ bs → b ∈ td ++ ex)
  | [], inn, td, h, _ => ⟨inn, [], by rw [List.append_nil]; rfl, by rw [List.append_nil]; exact h, fun b hb => by simp at hb⟩
  | b :: bs, inn, td, h, hb => by
    obtain ⟨⟨b0, b1⟩, bp⟩ := hb b (List.mem_cons_self ..)
    have hs := h.short
    unfold putV
    rw [if_pos ⟨⟨b0, b1⟩, by omega⟩]
    by_cases hg : gb inn b = true
    · rw [if_pos hg]
      obtain ⟨inn', ex, e1, e2, e3⟩ := put_ok hn bs inn td h (fun x hx => hb x (List.mem_cons_of_mem _ hx))
      refine ⟨inn', ex, e1, e2, fun x hx => ?_⟩
      rcases List.mem_cons.1 hx with rfl | hx
      · exact List.mem_append_left _ ((h.mem _ b0 b1).1 hg)
      · exact e3 x hx
    · rw [if_neg hg]
      have hnm : ¬ b ∈ td := fun x => hg ((h.mem b b0 b1).2 x)
      obtain ⟨inn', ex, e1, e2, e3⟩ := put_ok hn bs (inn.set b.toNat true) (td ++ [b]) ⟨by rw [List.length_set]; exact h.len, List.nodup_append.2 ⟨h.nd, by simp, fun x hx y hy e => hnm (by rw [← List.mem_singleton.1 hy, ← e]; exact hx)⟩, fun x hx => by
        rcases List.mem_append.1 hx with hx | hx
        · exact h.rg x hx
        · rw [List.mem_singleton.1 hx]; exact ⟨⟨b0, b1⟩, bp⟩, fun x x0 x1 => by
        rw [gb_set b0 x0 (by rw [h.len]; exact b1)]
        by_cases e : x = b
        · subst e; simp
        · rw [if_neg e, h.mem x x0 x1]; simp [e]⟩ (fun x hx => hb x (List.mem_cons_of_mem _ hx))
      refine ⟨inn', b :: ex, by rw [e1]; simp, by rw [show td ++ b :: ex = (td ++ [b]) ++ ex by simp]; exact e2, fun x hx => ?_⟩
      rw [show td ++ b :: ex = (td ++ [b]) ++ ex by simp]
      rcases List.mem_cons.1 hx with rfl | hx
      · exact List.mem_append_left _ (List.mem_append_right _ (by simp))
      · exact e3 x hx
/-- A literal that is worked: a fact, or with a rule whose body is there, and earlier. -/
def DoneL (T : Thy) (s : SV) (td : List Int) (q : Int) : Prop := gb s.fact q = true ∨ ∃ r, T.St r ∧ T.hd r = q ∧ ∀ b, b ∈ T.bd r → b ∈ td ∧ ga s.hgt b < ga s.hgt q
theorem early_rule {T : Thy} {F : List Int} {s : SV} (h : Solved T F s) {q : Int} (hq : T.Rg q) (hp : gb s.plus q = true) (hf : ¬ gb s.fact q = true) : ∃ r, r ∈ s.rls.getD q.toNat [] ∧ (!(T.bd r).any (earlyV s q)) = true := by
  rcases h.tells.pa q ⟨hq, hp⟩ with hF | ⟨r, h1, h2, h3⟩
  · exact absurd ((h.fact q hq).2 hF) hf
  · refine ⟨r, ?_, ?_⟩
    · rw [h.stat.rls q hq, List.mem_filter, irange_mem]
      exact ⟨h1.1, by simp [h1.2, h2]⟩
    · rw [Bool.not_eq_true', List.any_eq_false]
      intro b hb
      obtain ⟨⟨_, g1⟩, g2⟩ := h3 b hb
      unfold earlyV
      rw [g1]
      simp only [Bool.not_true, Bool.false_or, decide_eq_true_eq]
      omega
theorem least_runs {T : Thy} {F : List Int} {s : SV} (h : Solved T F s) (hok : T.Ok) : ∀ (k i : Nat) (inn : List Bool) (td : List Int), k + i = T.n + 1 → Todo T s inn td → i ≤ td.length → (∀ j : Nat, j < i → DoneL T s td (rd td j)) →
    ∃ fin td', leastV T.n T.m T.bd s k inn td i = some fin ∧ Todo T s fin td' ∧ (∀ x, x ∈ td → x ∈ td') ∧ (∀ x, x ∈ td' → DoneL T s td' x) := by
  intro k
  induction k with
  | zero =>
    intro i inn td hk ht hi hd
    have := ht.short
    omega
  | succ k ih =>
    intro i inn td hk ht hi hd
    have h4 := hok.n4
    have hs := ht.short
    unfold leastV
    by_cases hlt : i < td.length
    rotate_left
    · rw [if_neg hlt]
      refine ⟨inn, td, rfl, ht, fun x hx => hx, fun x hx => ?_⟩
      obtain ⟨j, hj, e⟩ := List.mem_iff_getElem.1 hx
      have := hd j (by omega)
      rwa [rd_get hj, e] at this
    rw [if_pos hlt]
    obtain ⟨q, hq⟩ : ∃ q, q = rd td (i : Int) := ⟨_, rfl⟩
    have hqm : q ∈ td := by rw [hq]; exact rd_mem hlt
    obtain ⟨⟨q0, q1⟩, qp⟩ := ht.rg q hqm
    rw [← hq, if_pos ⟨⟨q0, q1⟩, by omega⟩]
    have keep : ∀ (inn' : List Bool) (ex : List Int), Todo T s inn' (td ++ ex) → DoneL T s (td ++ ex) q → ∀ j : Nat, j < i + 1 → DoneL T s (td ++ ex) (rd (td ++ ex) j) := by
      intro inn' ex ht' hdq j hj
      have hjl : j < td.length := by omega
      have e : rd (td ++ ex) (j : Int) = rd td (j : Int) := by
        rw [rd_get (show j < (td ++ ex).length by rw [List.length_append]; omega), rd_get hjl, List.getElem_append_left hjl]
      by_cases hji : j = i
      · subst hji
        rw [e, ← hq]; exact hdq
      · rw [e]
        rcases hd j (by omega) with hf | ⟨r, h1, h2, h3⟩
        · exact .inl hf
        · exact .inr ⟨r, h1, h2, fun b hb => ⟨List.mem_append_left _ (h3 b hb).1, (h3 b hb).2⟩⟩
    by_cases hf : gb s.fact q = true
    · rw [if_pos hf]
      refine ih (i + 1) inn td (by omega) ht (by omega) ?_
      have := keep inn [] (by rw [List.append_nil]; exact ht) (.inl hf)
      rwa [List.append_nil] at this
    · rw [if_neg hf]
      obtain ⟨L, hL⟩ : ∃ L, L = s.rls.getD q.toNat [] := ⟨_, rfl⟩
      have hLm : ∀ r, r ∈ L ↔ T.St r ∧ T.hd r = q := fun r => by
        rw [hL, h.stat.rls q ⟨q0, q1⟩, List.mem_filter, irange_mem]
        unfold Thy.St
        simp only [decide_eq_true_eq]
        exact ⟨fun ⟨x, y, z⟩ => ⟨⟨x, y⟩, z⟩, fun ⟨⟨x, y⟩, z⟩ => ⟨x, y, z⟩⟩
      have hex := early_rule h ⟨q0, q1⟩ qp hf
      unfold restV
      rw [← hL] at hex ⊢
      obtain ⟨ir, i1, i2, i3, i4⟩ := idxF_find (fun r => !(T.bd r).any (earlyV s q)) L 0 hex
      rw [Int.zero_add] at i2
      rw [i2]
      obtain ⟨r, hr⟩ : ∃ r, r = rd L (ir : Int) := ⟨_, rfl⟩
      rw [← hr] at i3 i4 ⊢
      rw [if_pos ⟨fun x hx => ⟨((hLm x).1 hx).1.1, fun b hb => hok.bd x ((hLm x).1 hx).1 b hb⟩, by omega, by omega⟩]
      obtain ⟨hst, hhd⟩ := (hLm r).1 i4
      have i3 : (!(T.bd r).any (earlyV s q)) = true := i3
      rw [Bool.not_eq_true', List.any_eq_false] at i3
      have hb : ∀ b, b ∈ T.bd r → gb s.plus b = true ∧ ga s.hgt b < ga s.hgt q := fun b hb => by
        have := i3 b hb
        unfold earlyV at this
        cases e : gb s.plus b
        · rw [e] at this; simp at this
        · rw [e] at this
          simp only [Bool.not_true, Bool.false_or, decide_eq_true_eq] at this
          exact ⟨rfl, by omega⟩
      obtain ⟨inn', ex, e1, e2, e3⟩ := put_ok hok.n4 (T.bd r) inn td ht (fun b hbm => ⟨hok.bd r hst b hbm, (hb b hbm).1⟩)
      rw [e1]
      simp only [Option.bind_some]
      obtain ⟨fin, td', f1, f2, f3, f4⟩ := ih (i + 1) inn' (td ++ ex) (by omega) e2 (by rw [List.length_append]; omega) (keep inn' ex e2 (.inr ⟨r, hst, hhd, fun b hbm => ⟨e3 b hbm, (hb b hbm).2⟩⟩))
      exact ⟨fin, td', f1, f2, fun x hx => f3 x (List.mem_append_left _ hx), f4⟩
/-- Of what is worked whole, each has +D by its facts alone. -/
theorem least_pl {T : Thy} {F : List Int} {s : SV} (h : Solved T F s) {l td : List Int} (hd : ∀ x, x ∈ td → DoneL T s td x) (hr : ∀ x, x ∈ td → T.Rg x ∧ gb s.plus x = true) (hl : ∀ x, x ∈ td → gb s.fact x = true → x ∈ l) : ∀ (d : Nat) (q : Int), q ∈ td → ga s.hgt q ≤ d → T.pl (fun x => x ∈ l) d q := by
  intro d
  induction d with
  | zero =>
    intro q hq hh
    have := h.tells.one q (.inl (hr q hq))
    exact absurd hh (by omega)
  | succ d ih =>
    intro q hq hh
    rcases hd q hq with hf | ⟨r, h1, h2, h3⟩
    · exact .inl (hl q hq hf)
    · exact .inr ⟨r, h1, h2, fun b hb => ih b (h3 b hb).1 (by have := (h3 b hb).2; omega)⟩
theorem least_ev {a0 : Int} {fo be : List (List Int)} {rs : List S37} {l : List Int} (hf : WfRows fo) (hb : WfRows be) (hl : WfRow l) {lit : Int} {r : List Int × Int} (h : leastT (gvS a0 fo rs be l) a0 (tri rs) l lit = some r) : Ev (fun k => strict_Least.f k a0 fo rs be l lit) r := by
  unfold strict_Least.f
  refine Ev.bind (given_ev hf hb hl) ?_
  exact Ev.congr (fun _ => h) (Ev.now r)
theorem least_l0 (l : List Int) (x : List Bool) (hx : ∀ q, q ∈ l → (0 ≤ q ∧ q < x.length) ∧ gb x q = true) (hl4 : l.length ≤ 4096) : ∀ (f i : Nat), i + f = l.length → Ev (fun k => lexpriorlaw14_StrictLeast.l0 k l x (i : Int)) true := by
  intro f
  induction f with
  | zero =>
    intro i hi
    refine Ev.step (fun _ => rfl) ?_
    simp only [lexpriorlaw14_StrictLeast.l0, if_neg (show ¬ (i : Int) < (l.length : Int) by omega)]
    exact Ev.now _
  | succ f ih =>
    intro i hi
    obtain ⟨⟨q0, q1⟩, q2⟩ := hx (rd l i) (rd_mem (by omega))
    have q2 : rdOf false x (rd l (i : Int)) = true := q2
    refine Ev.step (fun _ => rfl) ?_
    simp only [lexpriorlaw14_StrictLeast.l0, if_pos (show (i : Int) < (l.length : Int) by omega), if_pos (show (0 : Int) ≤ (i : Int) by omega), if_pos q0, if_pos q1, if_pos q2, wr_succ (show i ≤ 140737488351232 by omega)]
    exact ih (i + 1) (by omega)
theorem strictLeast_ev {a0 : Int} {fo be : List (List Int)} {rs : List S37} {l : List Int} {lit : Int} (hf : WfRows fo) (hb : WfRows be) (hl : WfRow l) : Ev (fun k => lexpriorlaw14_StrictLeast.f k a0 fo rs be l lit) true := by
  unfold lexpriorlaw14_StrictLeast.f
  refine Ev.bind works_ev ?_
  simp only [if_true]
  have nil : ∀ x : Int, x ≠ 0 → leastT (gvS a0 fo rs be l) a0 (tri rs) l lit = some ([], x) → Ev (fun k => (strict_Least.f k a0 fo rs be l lit).bind fun bt199 => if bt199.2 = 0 then ((strict_Plus.f k a0 fo rs be bt199.1).bind fun bt203 => ((lexpriorlaw14_marked.f a0 bt203.1).bind fun bt207 => ((lexpriorlaw14_marked.f a0 l).bind fun bt211 => (if bt203.2 = 0 then (if bt207.2 = true then (if bt211.2 = true then (if 0 ≤ lit then (if lit < (bt207.1.length : Int) then (lexpriorlaw14_StrictLeast.j0 k bt199.1 bt211.1 (!(rdOf false bt207.1 lit))) else (none)) else (none)) else (lexpriorlaw14_StrictLeast.j0 k bt199.1 bt211.1 true)) else (lexpriorlaw14_StrictLeast.j0 k bt199.1 bt211.1 true)) else (lexpriorlaw14_StrictLeast.j0 k bt199.1 bt211.1 true))))) else (some ((bt199.1.length : Int) == 0))) true := by
    intro x hx e
    refine Ev.bind (least_ev hf hb hl e) ?_
    simp only [if_neg hx]
    exact Ev.congr (fun _ => rfl) (Ev.now true)
  by_cases hg : gvS a0 fo rs be l = 0
  rotate_left
  · exact nil _ hg (by unfold leastT; rw [if_neg hg])
  obtain ⟨s, hs, hS, hok, _⟩ := solved_ev hg
  obtain ⟨g1, g2⟩ := gv_zero hg
  obtain ⟨hpre, _⟩ := check_pre g1
  have ha := hpre.an
  by_cases hlit : 0 ≤ lit ∧ lit < a0
  rotate_left
  · exact nil 91 (by decide) (by unfold leastT; rw [if_pos hg, if_pos ha.1, if_neg hlit])
  by_cases hpl : gb s.plus lit = true
  rotate_left
  · exact nil 203 (by decide) (by unfold leastT; rw [if_pos hg, if_pos ha.1, if_pos hlit, hs]; simp only [Option.bind_some]; rw [if_neg hpl])
  clear nil
  obtain ⟨n, hn⟩ : ∃ n : Nat, n = a0.toNat := ⟨_, rfl⟩
  have hna : (n : Int) = a0 := by omega
  have hn4 : n ≤ 4096 := by omega
  have hTn : (thyS a0 rs).n = n := by show a0.toNat = _; rw [← hn]
  have hRg : ∀ x, (thyS a0 rs).Rg x ↔ 0 ≤ x ∧ x < (n : Int) := fun x => by
    show 0 ≤ x ∧ x < ((a0.toNat : Nat) : Int) ↔ _
    rw [← hn]
  have td0 : Todo (thyS a0 rs) s ((List.replicate n false).set lit.toNat true) [lit] := by
    refine ⟨by rw [List.length_set, List.length_replicate, hTn], by simp, fun x hx => ?_, fun x x0 x1 => ?_⟩
    · rw [List.mem_singleton.1 hx]
      exact ⟨(hRg lit).2 ⟨hlit.1, by omega⟩, hpl⟩
    · rw [gb_set hlit.1 x0 (by rw [List.length_replicate]; omega), Go.Proofs.Ythlmpioijjnmnaa.K.gb_rep, List.mem_singleton]
      by_cases e : x = lit
      · simp [e]
      · simp [e]
  obtain ⟨fin, td, f1, f2, f3, f4⟩ := least_runs hS hok (n + 1) 0 _ [lit] (by rw [hTn]) td0 (Nat.zero_le _) (fun j hj => by omega)
  obtain ⟨L, hL⟩ : ∃ L, L = pickF (fun s q => gb fin q && gb s.fact q) s (irange n) := ⟨_, rfl⟩
  have hLm : ∀ x, x ∈ L ↔ (0 ≤ x ∧ x < n) ∧ (gb fin x && gb s.fact x) = true := fun x => by rw [hL]; exact pickF_mem
  have hLr : ris L a0 = true := by
    have := pickF_ris (fun s q => gb fin q && gb s.fact q) s n
    rw [← hL, hna] at this
    exact this
  have hLl : L.length ≤ 4096 := by
    have := nodup_len' n L (ris_nodup hLr) (fun x hx => ((hLm x).1 hx).1)
    omega
  have e1 : leastT (gvS a0 fo rs be l) a0 (tri rs) l lit = some (L, 0) := by
    unfold leastT
    rw [if_pos hg, if_pos ha.1, if_pos hlit, hs]
    simp only [Option.bind_some]
    rw [if_pos hpl, ← hn]
    have hm : (tri rs).length = (thyS a0 rs).m := by show _ = rs.length; simp [tri]
    rw [hm, hL]
    rw [hTn] at f1
    have f1 : leastV n (thyS a0 rs).m (bdT (tri rs)) s (n + 1) ((List.replicate n false).set lit.toNat true) [lit] 0 = some fin := f1
    rw [f1]
    rfl
  clear hL f1
  have hLw : WfRow L := by unfold WfRow; omega
  refine Ev.bind (least_ev hf hb hl e1) ?_
  simp only [if_true]
  have hg' := gv_of (fo := fo) (rs := rs) (be := be) g1 hLr
  obtain ⟨s', hs', hS', _, _⟩ := solved_ev hg'
  have e2 := pick_good (p := pPlus) hg' hs'
  rw [← hn] at e2
  refine Ev.bind (plus_ev hf hb hLw e2) ?_
  have r1 := pickF_ris pPlus s' n
  rw [hna] at r1
  obtain ⟨x, p1, p2, p3⟩ := marked_ok ha.1 ha.2 r1
  obtain ⟨y, c1, c2, c3⟩ := marked_ok ha.1 ha.2 g2
  refine Ev.bind (Ev.congr (fun _ => p1) (Ev.now (x, true))) ?_
  refine Ev.bind (Ev.congr (fun _ => c1) (Ev.now (y, true))) ?_
  have hit : rdOf false x lit = true := by
    show gb x lit = true
    rw [p3 lit hlit.1 hlit.2, pickF_mem]
    refine ⟨⟨hlit.1, by omega⟩, ?_⟩
    show gb s'.plus lit = true
    rw [solved_plus hS' ((hRg lit).2 ⟨hlit.1, by omega⟩)]
    exact ⟨_, least_pl hS f4 f2.rg (fun z hz hfz => (hLm z).2 ⟨(hRg z).1 (f2.rg z hz).1, by
      have hz' := (hRg z).1 (f2.rg z hz).1
      rw [(f2.mem z hz'.1 (by rw [hTn]; exact hz'.2)).2 hz, hfz]; rfl⟩) (ga s.hgt lit).toNat lit (f3 lit (by simp)) (by omega)⟩
  simp only [if_true, if_pos hlit.1, if_pos (show lit < (x.length : Int) by omega), hit, Bool.not_true]
  refine Ev.step (fun _ => rfl) ?_
  simp only [lexpriorlaw14_StrictLeast.j0, Bool.false_eq_true, if_false]
  refine least_l0 L y (fun q hq => ?_) hLl L.length 0 (by omega)
  obtain ⟨⟨q0, q1⟩, q2⟩ := (hLm q).1 hq
  rw [Bool.and_eq_true] at q2
  refine ⟨⟨q0, by omega⟩, (c3 q q0 (by omega)).2 ((hS.fact q ((hRg q).2 ⟨q0, q1⟩)).1 q2.2)⟩
end Go.Proofs.Ythlmpioijjnmnaa.P
namespace Go.Proofs.Ythlmpioijjnmnaa.Pure
open Go.RowKit Go.Proofs.YthlmpioijjnmnaaW.PrintWords Go.Proofs.Ythlmpioijjnmnaa.P
theorem StrictLeast : ∀ t, WfThy t → ∀ l, WfInts l → ∀ a, (Lit.int .i64 a).wf = true → ∃ k, lexpriorlaw14_StrictLeast.f k t.1 t.2.1 t.2.2.1 t.2.2.2 l a = some true := fun _ ht _ hl _ _ =>
  (strictLeast_ev ht.2.1.1 ht.2.2.2.1 hl.1).rounds
end Go.Proofs.Ythlmpioijjnmnaa.Pure
