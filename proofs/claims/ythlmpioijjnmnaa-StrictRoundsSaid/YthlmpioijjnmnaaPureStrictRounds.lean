/- Heights: of neither 0; of the others above 0, and above 1 just by one of the round ahead: over the functions that the program was printed as. -/
import Derived.Test.YthlmpioijjnmnaaStrP
import Derived.Test.YthlmpioijjnmnaaPx
namespace Go.Proofs.Ythlmpioijjnmnaa.P
open Go.RowKit Go.Proofs.YthlmpioijjnmnaaW.PrintWords Go.Proofs.Ythlmpioijjnmnaa.K Go.Proofs.Ythlmpioijjnmnaa.S
set_option linter.unusedVariables false
set_option linter.unusedSimpArgs false

/-- A round is there only behind the round ahead of it. -/
theorem round_ahead {T : Thy} {F P M : _ → Prop} {H : Int → Int} (h : Tells T F P M H) (hM : ∀ q, M q → 0 ≤ q ∧ q < T.n) {q : Int} {k : Int} (hk : 1 ≤ k) (hq : P q ∨ M q) (e : H q = k + 1) : ∃ b, (P b ∨ M b) ∧ H b = k := by
  apply Classical.byContradiction
  intro hn
  have hno : ∀ b, P b ∨ M b → H b < H q → H b ≤ k - 1 := fun b hb hl => by
    have : H b ≠ k := fun e' => hn ⟨b, hb, e'⟩
    omega
  rcases hq with hq | hq
  · rcases h.pa q hq with hf | ⟨r, h1, h2, h3⟩
    · have := (h.fa q hf).2
      omega
    · have := (h.pc r (k - 1) (by omega) h1 (fun b hb => ⟨(h3 b hb).1, hno b (.inl (h3 b hb).1) (h3 b hb).2⟩)).2
      rw [h2] at this
      omega
  · obtain ⟨h1, h2⟩ := h.mi q hq
    have := (h.mc q (k - 1) (by omega) (hM q hq) h1 (fun r hr hh => by
      obtain ⟨b, b1, b2, b3⟩ := h2 r hr hh
      exact ⟨b, b1, b2, hno b (.inr b2) b3⟩)).2
    omega
/-- All rounds below one that is there. -/
theorem rounds_below {n : Nat} {H : Int → Int} (hA : ∀ (q k : Int), (0 ≤ q ∧ q < (n : Int)) → 1 ≤ k → H q = k + 1 → ∃ b : Int, (0 ≤ b ∧ b < (n : Int)) ∧ H b = k) :
    ∀ (d : Nat) (q : Int), (0 ≤ q ∧ q < (n : Int)) → H q = (d : Int) → ∃ l : List Int, l.length = d ∧ l.Nodup ∧ (∀ x, x ∈ l → (0 ≤ x ∧ x < (n : Int)) ∧ H x ≤ d) ∧ ∀ v : Int, 1 ≤ v → v ≤ d → ∃ x : Int, (0 ≤ x ∧ x < (n : Int)) ∧ H x = v := by
  intro d
  induction d with
  | zero => exact fun q hq e => ⟨[], rfl, List.nodup_nil, fun x hx => by simp at hx, fun v h1 h2 => by omega⟩
  | succ d ih =>
    intro q hq e
    by_cases hd : d = 0
    · subst hd
      refine ⟨[q], rfl, by simp, fun x hx => ?_, fun v h1 h2 => ⟨q, hq, by omega⟩⟩
      simp at hx
      subst hx
      exact ⟨hq, by omega⟩
    · obtain ⟨b, hb, eb⟩ := hA q d hq (by omega) (by omega)
      obtain ⟨l, l1, l2, l3, l4⟩ := ih b hb eb
      refine ⟨q :: l, by simp [l1], List.nodup_cons.2 ⟨fun hm => ?_, l2⟩, fun x hx => ?_, fun v h1 h2 => ?_⟩
      · have := (l3 q hm).2
        omega
      · rcases List.mem_cons.1 hx with rfl | hx
        · exact ⟨hq, by omega⟩
        · exact ⟨(l3 x hx).1, by have := (l3 x hx).2; omega⟩
      · by_cases hv : v ≤ (d : Int)
        · exact l4 v h1 hv
        · exact ⟨q, hq, by omega⟩
theorem rounds_l1 (m : Int) (th : List Bool) (hm : m < th.length) (hl : th.length ≤ 140737488351232) (ht : ∀ v : Int, 1 ≤ v → v ≤ m → gb th v = true) : ∀ (f i : Nat), 1 ≤ i → (i : Int) + f = m + 1 → Ev (fun k => lexpriorlaw14_StrictRounds.l1 k m th i) true := by
  intro f
  induction f with
  | zero =>
    intro i h1 hi
    refine Ev.step (fun _ => rfl) ?_
    simp only [lexpriorlaw14_StrictRounds.l1, if_neg (show ¬ (i : Int) ≤ m by omega)]
    exact Ev.now _
  | succ f ih =>
    intro i h1 hi
    have h' : rdOf false th (i : Int) = true := ht i (by omega) (by omega)
    refine Ev.step (fun _ => rfl) ?_
    simp only [lexpriorlaw14_StrictRounds.l1, if_pos (show (i : Int) ≤ m by omega), if_pos (show (0 : Int) ≤ (i : Int) by omega), if_pos (show (i : Int) < (th.length : Int) by omega), if_pos h', wr_succ (show i ≤ 140737488351232 by omega)]
    exact ih (i + 1) (by omega) (by omega)
theorem rounds_l0 {a0 : Int} {fo be : List (List Int)} {rs : List S37} (n : Nat) (hn : (n : Int) = a0) (hn4 : n ≤ 4096) (h : List Int) (no : List Bool) (hl : h.length = n) (hnl : no.length = n)
    (hh : ∀ x : Int, 0 ≤ x → x < n → 0 ≤ ga h x ∧ ga h x ≤ n) (he : ∀ x : Int, 0 ≤ x → x < n → ((ga h x == 0) != gb no x) = false)
    (hA : ∀ q : Int, (0 ≤ q ∧ q < (n : Int)) → ∀ v : Int, 1 ≤ v → v ≤ ga h q → ∃ x : Int, (0 ≤ x ∧ x < (n : Int)) ∧ ga h x = v) :
    ∀ (f i : Nat) (m : Int) (th : List Bool), i + f = n → th.length = n + 2 → (m = 0 ∨ ∃ q : Int, (0 ≤ q ∧ q < (n : Int)) ∧ ga h q = m) → (∀ q : Int, 0 ≤ q → q < (i : Int) → gb th (ga h q) = true) → Ev (fun k => lexpriorlaw14_StrictRounds.l0 k h no m th i a0 fo rs be) true := by
  intro f
  induction f with
  | zero =>
    intro i m th hi ht hm hg
    refine Ev.step (fun _ => rfl) ?_
    simp only [lexpriorlaw14_StrictRounds.l0, if_neg (show ¬ (i : Int) < a0 by omega)]
    have hmn : 0 ≤ m ∧ m ≤ n := by
      rcases hm with rfl | ⟨q, hq, rfl⟩
      · exact ⟨by omega, by omega⟩
      · exact hh q hq.1 hq.2
    refine rounds_l1 m th (by omega) (by omega) (fun v h1 h2 => ?_) m.toNat 1 (by omega) (by omega)
    rcases hm with rfl | ⟨q, hq, e⟩
    · omega
    · obtain ⟨x, hx, ex⟩ := hA q hq v h1 (by omega)
      rw [← ex]
      exact hg x hx.1 (by omega)
  | succ f ih =>
    intro i m th hi ht hm hg
    obtain ⟨h0, h1⟩ := hh i (by omega) (by omega)
    have h0 : 0 ≤ rd h (i : Int) := h0
    have h1 : rd h (i : Int) ≤ n := h1
    have h2 : ((rd h (i : Int) == 0) != rdOf false no (i : Int)) = false := he i (by omega) (by omega)
    refine Ev.step (fun _ => rfl) ?_
    simp only [lexpriorlaw14_StrictRounds.l0, if_pos (show (i : Int) < a0 by omega), if_pos (show (0 : Int) ≤ (i : Int) by omega), if_pos (show (i : Int) < (h.length : Int) by omega), if_pos (show (i : Int) < (no.length : Int) by omega), h2, Bool.false_eq_true, if_false,
      if_neg (show ¬ rd h (i : Int) < 0 by omega), if_neg (show ¬ rd h (i : Int) > a0 by omega), if_pos h0, if_pos (show rd h (i : Int) < (th.length : Int) by omega), wr_succ (show i ≤ 140737488351232 by omega)]
    refine ih (i + 1) _ _ (by omega) (by rw [List.length_set]; exact ht) ?_ (fun q q0 q1 => ?_)
    · unfold mx
      by_cases hc : m < rd h (i : Int)
      · rw [if_pos hc]
        exact .inr ⟨i, ⟨by omega, by omega⟩, rfl⟩
      · rw [if_neg hc]
        exact hm
    · obtain ⟨g0, g1⟩ := hh q q0 (by omega)
      rw [gb_set h0 g0 (by omega)]
      by_cases hq : q = (i : Int)
      · subst hq
        exact if_pos rfl
      · by_cases e : ga h q = rd h (i : Int)
        · exact if_pos e
        · rw [if_neg e]
          exact hg q q0 (by omega)
theorem heights_ev {a0 : Int} {fo be : List (List Int)} {rs : List S37} {l : List Int} (hf : WfRows fo) (hb : WfRows be) (hl : WfRow l) {r : List Int × Int} (h : hgtT (gvS a0 fo rs be l) a0 (tri rs) l = some r) : Ev (fun k => strict_Heights.f k a0 fo rs be l) r := by
  unfold strict_Heights.f
  refine Ev.bind (given_ev hf hb hl) ?_
  exact Ev.congr (fun _ => h) (Ev.now r)
theorem neither_ev {a0 : Int} {fo be : List (List Int)} {rs : List S37} {l : List Int} (hf : WfRows fo) (hb : WfRows be) (hl : WfRow l) {r : List Int × Int} (h : pickT (gvS a0 fo rs be l) a0 (tri rs) l pNone = some r) : Ev (fun k => strict_Neither.f k a0 fo rs be l) r := by
  unfold strict_Neither.f
  refine Ev.bind (given_ev hf hb hl) ?_
  exact Ev.congr (fun _ => h) (Ev.now r)
theorem strictRounds_ev {a0 : Int} {fo be : List (List Int)} {rs : List S37} {l : List Int} (hf : WfRows fo) (hb : WfRows be) (hl : WfRow l) : Ev (fun k => lexpriorlaw14_StrictRounds.f k a0 fo rs be l) true := by
  unfold lexpriorlaw14_StrictRounds.f
  refine Ev.bind works_ev ?_
  simp only [if_true]
  by_cases hg : gvS a0 fo rs be l = 0
  rotate_left
  · refine Ev.bind (heights_ev (r := ([], gvS a0 fo rs be l)) hf hb hl (by unfold hgtT; rw [if_neg hg])) ?_
    refine Ev.bind (neither_ev hf hb hl (pick_bad hg)) ?_
    simp only [if_neg hg, if_true]
    exact Ev.now _
  obtain ⟨s, hs, hS, hok, _⟩ := solved_ev hg
  obtain ⟨g1, g2⟩ := gv_zero hg
  obtain ⟨hp, _⟩ := check_pre g1
  have ha := hp.an
  obtain ⟨n, hn⟩ : ∃ n : Nat, n = a0.toNat := ⟨_, rfl⟩
  have hna : (n : Int) = a0 := by omega
  have hn4 : n ≤ 4096 := by omega
  have e1 : hgtT (gvS a0 fo rs be l) a0 (tri rs) l = some (s.hgt, 0) := by unfold hgtT; rw [if_pos hg, hs]; rfl
  have e2 := pick_good (p := pNone) hg hs
  rw [← hn] at e2
  refine Ev.bind (heights_ev hf hb hl e1) ?_
  refine Ev.bind (neither_ev hf hb hl e2) ?_
  have rs1 := pickF_ris pNone s n
  rw [hna] at rs1
  obtain ⟨no, p1, p2, p3⟩ := marked_ok ha.1 ha.2 rs1
  simp only [if_true, p1, Option.bind_some]
  have hRg : ∀ x, (thyS a0 rs).Rg x ↔ 0 ≤ x ∧ x < (n : Int) := fun x => by
    show 0 ≤ x ∧ x < ((a0.toNat : Nat) : Int) ↔ _
    rw [← hn]
  have hTn : ((thyS a0 rs).n : Int) = n := by show ((a0.toNat : Nat) : Int) = _; rw [← hn]
  have hln : s.hgt.length = n := by have := hS.lhe; omega
  have hpos : ∀ q : Int, 0 ≤ q → q < n → (gb s.plus q = true ∨ gb s.minus q = true) → 1 ≤ ga s.hgt q := fun q h0 h1 h => by
    have hr := (hRg q).2 ⟨h0, h1⟩
    exact hS.tells.one q (h.imp (fun x => ⟨hr, x⟩) (fun x => ⟨hr, x⟩))
  have hzero : ∀ q : Int, 0 ≤ q → q < n → ¬ (gb s.plus q = true ∨ gb s.minus q = true) → ga s.hgt q = 0 := fun q h0 h1 h => by
    refine hS.zero q ((hRg q).2 ⟨h0, h1⟩) ?_ ?_
    · cases e : gb s.plus q
      · rfl
      · exact absurd (.inl e) h
    · cases e : gb s.minus q
      · rfl
      · exact absurd (.inr e) h
  have hA : ∀ (q k : Int), (0 ≤ q ∧ q < (n : Int)) → 1 ≤ k → ga s.hgt q = k + 1 → ∃ b : Int, (0 ≤ b ∧ b < (n : Int)) ∧ ga s.hgt b = k := fun q k hq hk e => by
    have hpm : gb s.plus q = true ∨ gb s.minus q = true := by
      apply Classical.byContradiction
      intro h
      have := hzero q hq.1 hq.2 h
      omega
    have hr := (hRg q).2 hq
    obtain ⟨b, b1, b2⟩ := round_ahead hS.tells (fun x hx => hx.1) hk (hpm.imp (fun x => ⟨hr, x⟩) (fun x => ⟨hr, x⟩)) e
    refine ⟨b, (hRg b).1 ?_, b2⟩
    rcases b1 with b1 | b1
    · exact b1.1
    · exact b1.1
  have hnn : ∀ x : Int, 0 ≤ x → x < n → 0 ≤ ga s.hgt x := fun x x0 x1 => by
    by_cases h : gb s.plus x = true ∨ gb s.minus x = true
    · have := hpos x x0 x1 h
      omega
    · rw [hzero x x0 x1 h]
      exact Int.le_refl _
  have hB : ∀ q : Int, (0 ≤ q ∧ q < (n : Int)) → ∃ l : List Int, l.length = (ga s.hgt q).toNat ∧ l.Nodup ∧ (∀ x, x ∈ l → (0 ≤ x ∧ x < (n : Int)) ∧ ga s.hgt x ≤ ((ga s.hgt q).toNat : Nat)) ∧ ∀ v : Int, 1 ≤ v → v ≤ ((ga s.hgt q).toNat : Nat) → ∃ x : Int, (0 ≤ x ∧ x < (n : Int)) ∧ ga s.hgt x = v := fun q hq =>
    rounds_below hA _ q hq (by have := hnn q hq.1 hq.2; omega)
  refine Ev.step (fun _ => rfl) ?_
  rw [show ((s.hgt.length : Int) != a0) = false by rw [hln, hna]; simp]
  simp only [lexpriorlaw14_StrictRounds.j0, Bool.false_eq_true, if_false, wr64 (x := a0 + 2) (by omega) (by omega), if_pos (show 0 ≤ a0 + 2 by omega), if_pos (show (a0 + 2).toNat ≤ 281474976710656 by omega)]
  refine rounds_l0 n hna hn4 s.hgt no hln (by omega) (fun x x0 x1 => ⟨hnn x x0 x1, ?_⟩) (fun x x0 x1 => ?_) (fun q hq v h1 h2 => ?_) n 0 0 _ (by omega) (by rw [List.length_replicate]; omega) (.inl rfl) (fun q q0 q1 => by omega)
  · obtain ⟨l, l1, l2, l3, _⟩ := hB x ⟨x0, x1⟩
    have := nodup_len' n l l2 (fun y hy => (l3 y hy).1)
    omega
  · have hx : gb no x = true ↔ pNone s x = true := by
      rw [p3 x x0 (by omega), pickF_mem]
      exact ⟨fun h => h.2, fun h => ⟨⟨x0, x1⟩, h⟩⟩
    by_cases h : gb s.plus x = true ∨ gb s.minus x = true
    · have h1 := hpos x x0 x1 h
      have h2 : gb no x = false := by
        cases e : gb no x
        · rfl
        · have := hx.1 e
          unfold pNone at this
          rcases h with h | h <;> simp [h] at this
      rw [h2]
      have : ga s.hgt x ≠ 0 := by omega
      simp [this]
    · have h1 := hzero x x0 x1 h
      have h2 : gb no x = true := hx.2 (by
        unfold pNone
        cases e1 : gb s.plus x
        · cases e2 : gb s.minus x
          · rfl
          · exact absurd (.inr e2) h
        · exact absurd (.inl e1) h)
      rw [h1, h2]
      rfl
  · obtain ⟨l, _, _, _, l4⟩ := hB q hq
    exact l4 v h1 (by have := hnn q hq.1 hq.2; omega)
end Go.Proofs.Ythlmpioijjnmnaa.P
namespace Go.Proofs.Ythlmpioijjnmnaa.Pure
open Go.RowKit Go.Proofs.YthlmpioijjnmnaaW.PrintWords Go.Proofs.Ythlmpioijjnmnaa.P
theorem StrictRounds : ∀ t, WfThy t → ∀ l, WfInts l → ∃ k, lexpriorlaw14_StrictRounds.f k t.1 t.2.1 t.2.2.1 t.2.2.2 l = some true := fun _ ht _ hl =>
  (strictRounds_ev ht.2.1.1 ht.2.2.2.1 hl.1).rounds
end Go.Proofs.Ythlmpioijjnmnaa.Pure
