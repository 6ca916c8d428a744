/- The theory's checks, plain: what they tell. -/
import Derived.Test.YtpcaonkahhbgfaaPx
import Derived.Test.YtpcaonkahhbgfaaOpn
namespace Go.Proofs.Ytpcaonkahhbgfaa.P
open Go.RowKit Go.Proofs.YtpcaonkahhbgfaaW.PrintWords Go.Proofs.Ytpcaonkahhbgfaa.K
set_option linter.unusedVariables false
set_option linter.unusedSimpArgs false

theorem wr64 {x : Int} (h0 : -9223372036854775808 ≤ x) (h1 : x ≤ 9223372036854775807) : wrap64 x = x := by unfold wrap64; omega
theorem wr_succ {i : Nat} (h : i ≤ 140737488351232) : wrap64 ((i : Int) + 1) = ((i + 1 : Nat) : Int) := by rw [wr64 (by omega) (by omega)]; omega
/-- Do numbers rise, above p, below n? -/
def risF (n : Int) : Int → List Int → Bool
  | _, [] => true
  | p, x :: xs => decide (p < x) && decide (x < n) && risF n x xs
def ris (l : List Int) (n : Int) : Bool := risF n (-1) l
def prv (l : List Int) (i : Nat) : Int := if i = 0 then -1 else rd l ((i : Int) - 1)
theorem prv_succ (l : List Int) (i : Nat) : prv l (i + 1) = rd l (i : Int) := by unfold prv; rw [if_neg (by omega)]; congr 1; omega
theorem rising_l0 (l : List Int) (n : Int) (hl : l.length ≤ 140737488351232) : ∀ (d i : Nat), i + d = l.length → -1 ≤ prv l i → Ev (fun k => theory_rising.l0 k l n l (l.length : Int) i) (risF n (prv l i) (l.drop i)) := by
  intro d
  induction d with
  | zero =>
    intro i hi _
    refine Ev.step (fun _ => rfl) ?_
    simp only [theory_rising.l0]
    rw [List.drop_of_length_le (by omega)]
    simp only [if_neg (show ¬ (i : Int) < (l.length : Int) by omega)]
    exact Ev.now true
  | succ d ih =>
    intro i hi hp
    refine Ev.step (fun _ => rfl) ?_
    simp only [theory_rising.l0]
    rw [dropR (by omega)]
    simp only [if_pos (show (i : Int) < (l.length : Int) by omega), if_pos (show (0 : Int) ≤ (i : Int) by omega), wr_succ (show i ≤ 140737488351232 by omega)]
    have hn := ih (i + 1) (by omega)
    rw [prv_succ] at hn
    simp only [risF]
    by_cases h0 : rd l (i : Int) < 0
    · simp only [if_pos h0]
      rw [decide_eq_false (by omega : ¬ prv l i < rd l (i : Int))]
      exact Ev.now false
    · simp only [if_neg h0]
      by_cases h1 : rd l (i : Int) ≥ n
      · simp only [if_pos h1]
        rw [decide_eq_false (by omega : ¬ rd l (i : Int) < n), Bool.and_false]
        exact Ev.now false
      · simp only [if_neg h1]
        rw [decide_eq_true (by omega : rd l (i : Int) < n), Bool.and_true]
        by_cases h2 : (i : Int) > 0
        · have e2 : wrap64 ((i : Int) - 1) = (i : Int) - 1 := wr64 (by omega) (by omega)
          have e3 : prv l i = rd l ((i : Int) - 1) := by unfold prv; rw [if_neg (by omega)]
          simp only [if_pos h2, e2, if_pos (show (0 : Int) ≤ (i : Int) - 1 by omega), if_pos (show (i : Int) - 1 < (l.length : Int) by omega)]
          rw [e3] at hp ⊢
          by_cases h3 : rd l (i : Int) ≤ rd l ((i : Int) - 1)
          · simp only [if_pos h3]
            rw [decide_eq_false (by omega : ¬ rd l ((i : Int) - 1) < rd l (i : Int))]
            exact Ev.now false
          · simp only [if_neg h3]
            rw [decide_eq_true (by omega : rd l ((i : Int) - 1) < rd l (i : Int)), Bool.true_and]
            exact hn (by omega)
        · simp only [if_neg h2]
          have e3 : prv l i = -1 := by unfold prv; rw [if_pos (by omega)]
          rw [e3, decide_eq_true (by omega : (-1 : Int) < rd l (i : Int)), Bool.true_and]
          exact hn (by omega)
theorem rising_ev {l : List Int} (n : Int) (hl : l.length ≤ 140737488351232) : Ev (fun k => theory_rising.f k l n) (ris l n) := by
  have := rising_l0 l n hl l.length 0 (by omega) (by unfold prv; rw [if_pos rfl]; omega)
  exact this
/-- What rises. -/
theorem risF_iff {n : Int} : ∀ {l : List Int} {p : Int}, risF n p l = true ↔ (∀ x, x ∈ l → p < x ∧ x < n) ∧ l.Pairwise (· < ·)
  | [], p => by simp [risF]
  | x :: l, p => by
    simp only [risF, Bool.and_eq_true, decide_eq_true_eq, List.pairwise_cons, List.mem_cons]
    rw [risF_iff]
    constructor
    · rintro ⟨⟨h1, h2⟩, h3, h4⟩
      exact ⟨fun y hy => by
        rcases hy with rfl | hy
        · exact ⟨h1, h2⟩
        · have := h3 y hy; omega, fun y hy => (h3 y hy).1, h4⟩
    · rintro ⟨h1, h2, h3⟩
      exact ⟨h1 x (.inl rfl), fun y hy => ⟨h2 y hy, (h1 y (.inr hy)).2⟩, h3⟩
theorem ris_iff {l : List Int} {n : Int} : ris l n = true ↔ (∀ x, x ∈ l → 0 ≤ x ∧ x < n) ∧ l.Pairwise (· < ·) := by
  unfold ris
  rw [risF_iff]
  exact and_congr_left (fun _ => forall_congr' (fun x => forall_congr' (fun _ => by omega)))
theorem ris_nodup {l : List Int} {n : Int} (h : ris l n = true) : l.Nodup := (ris_iff.1 h).2.imp (fun h e => by omega)
theorem rd_get {l : List Int} {i : Nat} (h : i < l.length) : rd l (i : Int) = l[i] := by simp [rd, List.getD_eq_getElem?_getD, List.getElem?_eq_getElem h]
theorem less_f (a b : Int) : cmp_Less_int.f a b = some (decide (a < b)) := by
  simp [cmp_Less_int.f, cmp_isNaN_int.f]
/-- Binary search in what rises. -/
theorem search_l0 (l : List Int) (x : Int) (hl : l.length ≤ 140737488351232) (hs : l.Pairwise (· < ·)) : ∀ (d lo hi : Nat), lo + d = hi → hi ≤ l.length → (∀ i, i < lo → rd l (i : Int) < x) → (∀ i, hi ≤ i → i < l.length → x ≤ rd l (i : Int)) →
    ∃ p : Nat, p ≤ l.length ∧ (∀ i, i < p → rd l (i : Int) < x) ∧ (∀ i, p ≤ i → i < l.length → x ≤ rd l (i : Int)) ∧ Ev (fun k => slices_BinarySearch_int_int.l0 k l x (l.length : Int) lo hi) ((p : Int), l.contains x) := by
  intro d
  induction d using Nat.strongRecOn with
  | ind d ih =>
    intro lo hi hd hh h1 h2
    by_cases hlt : lo < hi
    · obtain ⟨m, hm⟩ : ∃ m : Nat, m = (lo + hi) / 2 := ⟨_, rfl⟩
      have hm1 : lo ≤ m := by omega
      have hm2 : m < hi := by omega
      have e0 : wrap64 ((lo : Int) + (hi : Int)) = ((lo + hi : Nat) : Int) := by rw [wr64 (by omega) (by omega)]; omega
      have e1 : IntKind.u64.wrap ((lo + hi : Nat) : Int) = ((lo + hi : Nat) : Int) := by
        simp [IntKind.wrap, IntKind.signed, IntKind.bits]
        omega
      have e2 : wrap64 (((lo + hi : Nat) : Int) / 2) = (m : Int) := by rw [wr64 (by omega) (by omega)]; omega
      have mono : ∀ i j, i < j → j < l.length → rd l (i : Int) < rd l (j : Int) := fun i j hij hj => by
        rw [rd_get (by omega), rd_get hj]
        exact (List.pairwise_iff_getElem.1 hs) i j (by omega) hj hij
      by_cases hc : rd l (m : Int) < x
      · obtain ⟨p, p1, p2, p3, p4⟩ := ih (hi - (m + 1)) (by omega) (m + 1) hi (by omega) hh (fun i hi' => by
          by_cases e : i = m
          · rw [e]; exact hc
          · have := mono i m (by omega) (by omega); omega) h2
        refine ⟨p, p1, p2, p3, Ev.step (fun _ => rfl) ?_⟩
        simp only [slices_BinarySearch_int_int.l0, if_pos (show (lo : Int) < (hi : Int) by omega), e0, e1, e2, if_pos (show (0 : Int) ≤ (m : Int) by omega), if_pos (show (m : Int) < (l.length : Int) by omega), less_f, Option.bind_some, decide_eq_true hc, if_true, wr_succ (show m ≤ 140737488351232 by omega)]
        exact p4
      · obtain ⟨p, p1, p2, p3, p4⟩ := ih (m - lo) (by omega) lo m (by omega) (by omega) h1 (fun i hi1 hi2 => by
          by_cases e : i = m
          · rw [e]; omega
          · have := mono m i (by omega) hi2; omega)
        refine ⟨p, p1, p2, p3, Ev.step (fun _ => rfl) ?_⟩
        simp only [slices_BinarySearch_int_int.l0, if_pos (show (lo : Int) < (hi : Int) by omega), e0, e1, e2, if_pos (show (0 : Int) ≤ (m : Int) by omega), if_pos (show (m : Int) < (l.length : Int) by omega), less_f, Option.bind_some, decide_eq_false hc, Bool.false_eq_true, if_false]
        exact p4
    · have e : lo = hi := by omega
      subst e
      refine ⟨lo, hh, h1, h2, Ev.step (fun _ => rfl) ?_⟩
      simp only [slices_BinarySearch_int_int.l0, if_neg (show ¬ (lo : Int) < (lo : Int) by omega)]
      have hcon : l.contains x = true → lo < l.length ∧ rd l (lo : Int) = x := fun h => by
        obtain ⟨i, hi, e⟩ := List.getElem_of_mem (List.contains_iff_mem.1 h)
        have e' : rd l (i : Int) = x := by rw [rd_get hi]; exact e
        by_cases hil : i < lo
        · have := h1 i hil; omega
        · have hlo : lo < l.length := by omega
          refine ⟨hlo, ?_⟩
          have := h2 lo (Nat.le_refl _) hlo
          by_cases e2 : i = lo
          · rw [← e2]; exact e'
          · have hh2 := (List.pairwise_iff_getElem.1 hs) lo i hlo hi (by omega)
            rw [← rd_get hlo, ← rd_get hi] at hh2
            omega
      by_cases h3 : (lo : Int) < (l.length : Int)
      · simp only [if_pos h3, if_pos (show (0 : Int) ≤ (lo : Int) by omega)]
        by_cases h4 : rd l (lo : Int) = x
        · simp only [if_pos h4]
          have : l.contains x = true := by rw [List.contains_iff_mem, ← h4, rd_get (by omega)]; exact List.getElem_mem _
          rw [this]
          exact Ev.now _
        · simp only [if_neg h4, slices_isNaN_int.f, Option.bind_some]
          have : l.contains x = false := Bool.eq_false_iff.2 (fun h => h4 (hcon h).2)
          rw [this]
          simp
          exact Ev.now _
      · simp only [if_neg h3]
        have : l.contains x = false := Bool.eq_false_iff.2 (fun h => h3 (by have := (hcon h).1; omega))
        rw [this]
        exact Ev.now _
theorem search_ev {l : List Int} (x : Int) (hl : l.length ≤ 140737488351232) (hs : l.Pairwise (· < ·)) : ∃ p : Nat, p ≤ l.length ∧ (∀ i, i < p → rd l (i : Int) < x) ∧ (∀ i, p ≤ i → i < l.length → x ≤ rd l (i : Int)) ∧ Ev (fun k => slices_BinarySearch_int_int.f k l x) ((p : Int), l.contains x) :=
  search_l0 l x hl hs l.length 0 l.length (by omega) (Nat.le_refl _) (fun i hi => by omega) (fun i h1 h2 => by omega)
theorem has_ev {l : List Int} (x : Int) (hl : l.length ≤ 140737488351232) (hs : l.Pairwise (· < ·)) : Ev (fun k => theory_has.f k l x) (l.contains x) := by
  obtain ⟨p, _, _, _, h⟩ := search_ev x hl hs
  exact Ev.bind h (Ev.now _)
theorem index_l0 (l : List Int) (x : Int) (hl : l.length ≤ 140737488351232) : ∀ (d i : Nat), i + d = l.length → ∃ r, Ev (fun k => slices_Index_int_int.l0 k l x (l.length : Int) i) r ∧ (decide (r ≥ 0) = (l.drop i).contains x) := by
  intro d
  induction d with
  | zero =>
    intro i hi
    refine ⟨-1, Ev.step (fun _ => rfl) ?_, by rw [List.drop_of_length_le (by omega)]; simp⟩
    simp only [slices_Index_int_int.l0, if_neg (show ¬ (i : Int) < (l.length : Int) by omega)]
    exact Ev.now _
  | succ d ih =>
    intro i hi
    by_cases h : x = rd l (i : Int)
    · refine ⟨i, Ev.step (fun _ => rfl) ?_, ?_⟩
      · simp only [slices_Index_int_int.l0, if_pos (show (i : Int) < (l.length : Int) by omega), if_pos (show (0 : Int) ≤ (i : Int) by omega), if_pos h]
        exact Ev.now _
      · rw [dropR (by omega), ← h, decide_eq_true (by omega : (i : Int) ≥ 0)]
        simp
    · obtain ⟨r, h1, h2⟩ := ih (i + 1) (by omega)
      refine ⟨r, Ev.step (fun _ => rfl) ?_, ?_⟩
      · simp only [slices_Index_int_int.l0, if_pos (show (i : Int) < (l.length : Int) by omega), if_pos (show (0 : Int) ≤ (i : Int) by omega), if_neg h, wr_succ (show i ≤ 140737488351232 by omega)]
        exact h1
      · rw [dropR (by omega), h2]
        simp [List.contains_cons, h]
theorem contains_ev {l : List Int} (x : Int) (hl : l.length ≤ 140737488351232) : Ev (fun k => slices_Contains_int_int.f k l x) (l.contains x) := by
  obtain ⟨r, h1, h2⟩ := index_l0 l x hl l.length 0 (by omega)
  rw [List.drop_zero] at h2
  rw [← h2]
  exact Ev.bind h1 (Ev.now _)

/-- The first from i on, among d, that is bad; -1: none. -/
def fstB (p : Nat → Bool) : Nat → Nat → Int
  | 0, _ => -1
  | d + 1, i => if p i = true then (i : Int) else fstB p d (i + 1)
theorem fstB_neg {p : Nat → Bool} : ∀ {d i : Nat}, fstB p d i < 0 ↔ ∀ j, i ≤ j → j < i + d → p j = false
  | 0, i => ⟨fun _ j h1 h2 => by omega, fun _ => by simp [fstB]⟩
  | d + 1, i => by
    unfold fstB
    by_cases h : p i = true
    · rw [if_pos h]
      exact ⟨fun h' => by omega, fun h' => by have := h' i (Nat.le_refl _) (by omega); rw [h] at this; cases this⟩
    · rw [if_neg h, fstB_neg]
      constructor
      · intro h' j h1 h2
        by_cases e : j = i
        · rw [e]; exact Bool.eq_false_iff.2 h
        · exact h' j (by omega) (by omega)
      · intro h' j h1 h2
        exact h' j (by omega) (by omega)
theorem fstB_lt {p : Nat → Bool} : ∀ {d i : Nat}, fstB p d i < (i + d : Nat) ∨ (d = 0 ∧ fstB p d i = -1)
  | 0, i => .inr ⟨rfl, rfl⟩
  | d + 1, i => by
    left
    unfold fstB
    split
    · omega
    · rcases fstB_lt (p := p) (d := d) (i := i + 1) with h | ⟨rfl, h⟩
      · omega
      · rw [h]; omega
def WfRow (l : List Int) : Prop := l.length * 8 ≤ 140737488351232
theorem row_wf {fo : List (List Int)} (hw : ∀ r, r ∈ fo → WfRow r) (q : Int) : (nxL fo q).length ≤ 140737488351232 := by
  unfold nxL
  rw [List.getD_eq_getElem?_getD]
  cases h : fo[q.toNat]? with
  | none => simp
  | some r => have := hw r (List.mem_of_getElem? h); unfold WfRow at this; simp; omega
theorem rdL (fo : List (List Int)) (q : Int) : rd_L1 fo q = nxL fo q := rfl
def badFoe (a0 : Int) (fo : List (List Int)) (q : Int) : Bool := decide (((nxL fo q).length : Int) > 64) || !ris (nxL fo q) a0 || (nxL fo q).contains q || (nxL fo q).any (fun f => !(nxL fo f).contains q)
def foesS (a0 : Int) (fo : List (List Int)) : Int := fstB (fun q => badFoe a0 fo q) fo.length 0
section
variable {a0 : Int} {fo : List (List Int)} {rs : List S36} {be : List (List Int)}
theorem foes_l1 (hw : ∀ r, r ∈ fo → WfRow r) (q : Int) (row : List Int) (hr : row.length ≤ 140737488351232) (hin : ∀ f, f ∈ row → 0 ≤ f ∧ f < fo.length) (v : Int) (i : Int) (r : Int) (hc : Ev (fun k => theory_foes.l0 k fo (fo.length : Int) (wrap64 (i + 1)) a0 fo rs be) r) :
    ∀ (d j : Nat), j + d = row.length → Ev (fun k => theory_foes.l1 k q fo (fo.length : Int) i row (row.length : Int) j a0 fo rs be) (if (row.drop j).all (fun f => (nxL fo f).contains q) = true then r else q) := by
  intro d
  induction d with
  | zero =>
    intro j hj
    refine Ev.step (fun _ => rfl) ?_
    rw [List.drop_of_length_le (by omega)]
    simp only [theory_foes.l1, if_neg (show ¬ (j : Int) < (row.length : Int) by omega), List.all_nil, if_true]
    exact hc
  | succ d ih =>
    intro j hj
    obtain ⟨h0, h1⟩ := hin _ (rd_mem (l := row) (j := j) (by omega))
    refine Ev.step (fun _ => rfl) ?_
    rw [dropR (by omega)]
    simp only [theory_foes.l1, if_pos (show (j : Int) < (row.length : Int) by omega), if_pos (show (0 : Int) ≤ (j : Int) by omega), if_pos h0, if_pos h1, rdL, List.all_cons]
    refine Ev.bind (contains_ev q (row_wf hw _)) ?_
    by_cases hcon : (nxL fo (rd row (j : Int))).contains q = true
    · simp only [if_pos hcon, hcon, Bool.true_and, wr_succ (show j ≤ 140737488351232 by omega)]
      exact ih (j + 1) (by omega)
    · simp only [if_neg hcon, Bool.eq_false_iff.2 hcon, Bool.false_and, Bool.false_eq_true, if_false]
      exact Ev.now _
theorem foes_l0 (hn : (fo.length : Int) = a0) (hn2 : a0 ≤ 4096) (hw : ∀ r, r ∈ fo → WfRow r) : ∀ (d i : Nat), i + d = fo.length → Ev (fun k => theory_foes.l0 k fo (fo.length : Int) i a0 fo rs be) (fstB (fun q => badFoe a0 fo q) d i) := by
  intro d
  induction d with
  | zero =>
    intro i hi
    refine Ev.step (fun _ => rfl) ?_
    simp only [theory_foes.l0, if_neg (show ¬ (i : Int) < (fo.length : Int) by omega)]
    exact Ev.now _
  | succ d ih =>
    intro i hi
    refine Ev.step (fun _ => rfl) ?_
    have hb : ∀ b : Bool, badFoe a0 fo i = b → fstB (fun q => badFoe a0 fo q) (d + 1) i = if b = true then (i : Int) else fstB (fun q => badFoe a0 fo q) d (i + 1) := fun b e => by
      show (if badFoe a0 fo i = true then _ else _) = _
      rw [e]
    simp only [theory_foes.l0, if_pos (show (i : Int) < (fo.length : Int) by omega), if_pos (show (0 : Int) ≤ (i : Int) by omega), rdL]
    have hrow := row_wf hw (i : Int)
    have bad : Ev (fun k => theory_foes.j1 k i (nxL fo i) fo (fo.length : Int) i true a0 fo rs be) (i : Int) := by
      refine Ev.step (fun _ => rfl) ?_
      simp only [theory_foes.j1, if_true]
      exact Ev.now _
    by_cases h64 : ((nxL fo (i : Int)).length : Int) > 64
    · simp only [h64, if_true]
      rw [hb true (by unfold badFoe; rw [decide_eq_true h64]; simp), if_pos rfl]
      exact bad
    · simp only [h64, if_false]
      refine Ev.bind (rising_ev a0 hrow) ?_
      by_cases hri : ris (nxL fo i) a0 = true
      rotate_left
      · simp only [if_neg hri]
        rw [hb true (by unfold badFoe; rw [Bool.eq_false_iff.2 hri]; simp), if_pos rfl]
        exact bad
      · simp only [if_pos hri]
        have hris := ris_iff.1 hri
        refine Ev.bind (has_ev (i : Int) hrow hris.2) ?_
        refine Ev.step (fun _ => rfl) ?_
        simp only [theory_foes.j1]
        by_cases hself : (nxL fo i).contains (i : Int) = true
        rotate_left
        · simp only [if_neg hself]
          have hself := Bool.eq_false_iff.2 hself
          have := foes_l1 (a0 := a0) (rs := rs) (be := be) hw (i : Int) (nxL fo i) hrow (fun f hf => by have := hris.1 f hf; omega) 0 (i : Int) _ (by rw [wr_succ (show i ≤ 140737488351232 by omega)]; exact ih (i + 1) (by omega)) (nxL fo i).length 0 (by omega)
          rw [List.drop_zero] at this
          have e : badFoe a0 fo i = !((nxL fo i).all fun f => (nxL fo f).contains (i : Int)) := by
            unfold badFoe
            rw [decide_eq_false h64, hri, hself]
            simp only [Bool.not_true, Bool.false_or, Bool.or_false]
            rw [List.not_all_eq_any_not]
          rw [hb _ e]
          by_cases hall : ((nxL fo i).all fun f => (nxL fo f).contains (i : Int)) = true
          · rw [if_pos hall] at this
            rw [if_neg (by rw [hall]; decide)]
            exact this
          · rw [if_neg hall] at this
            rw [if_pos (by rw [Bool.eq_false_iff.2 hall]; decide)]
            exact this
        · simp only [if_pos hself]
          rw [hb true (by unfold badFoe; rw [hself]; simp), if_pos rfl]
          exact Ev.now _
theorem foes_ev (hn : (fo.length : Int) = a0) (hn2 : a0 ≤ 4096) (hw : ∀ r, r ∈ fo → WfRow r) : Ev (fun k => theory_foes.f k a0 fo rs be) (foesS a0 fo) := foes_l0 hn hn2 hw fo.length 0 (by omega)
def ruleB (a0 : Int) (r : S36) : Bool := decide (r.f0 ≥ 1) && decide (r.f0 ≤ 3) && decide (r.f1 ≥ 0) && decide (r.f1 < a0) && decide ((r.f2.length : Int) ≤ 16) && ris r.f2 a0
theorem rule_ev (r : S36) : Ev (fun k => theory_rule.f k a0 fo rs be r.f0 r.f1 r.f2) (ruleB a0 r) := by
  unfold theory_rule.f ruleB
  by_cases h1 : r.f0 ≥ 1
  · simp only [if_pos h1, decide_eq_true h1, Bool.true_and]
    by_cases h2 : r.f0 ≤ 3
    · simp only [if_pos h2, decide_eq_true h2, Bool.true_and]
      by_cases h3 : r.f1 ≥ 0
      · simp only [if_pos h3, decide_eq_true h3, Bool.true_and]
        by_cases h4 : r.f1 < a0
        · simp only [if_pos h4, decide_eq_true h4, Bool.true_and]
          by_cases h5 : (r.f2.length : Int) ≤ 16
          · simp only [if_pos h5, decide_eq_true h5, Bool.true_and]
            exact Ev.bind (rising_ev a0 (by omega)) (Ev.now _)
          · simp only [if_neg h5, decide_eq_false h5, Bool.false_and]
            exact Ev.now _
        · simp only [if_neg h4, decide_eq_false h4, Bool.false_and]
          exact Ev.now _
      · simp only [if_neg h3, decide_eq_false h3, Bool.false_and]
        exact Ev.now _
    · simp only [if_neg h2, decide_eq_false h2, Bool.false_and]
      exact Ev.now _
  · simp only [if_neg h1, decide_eq_false h1, Bool.false_and]
    exact Ev.now _

theorem nodup_len' : ∀ (n : Nat) (l : List Int), l.Nodup → (∀ x, x ∈ l → 0 ≤ x ∧ x < n) → l.length ≤ n
  | 0, l, _, h => by
    cases l with
    | nil => simp
    | cons x l => have := h x (by simp); omega
  | n + 1, l, hn, h => by
    by_cases hm : (n : Int) ∈ l
    · have e := List.length_erase_of_mem hm
      have := nodup_len' n (l.erase (n : Int)) (hn.erase _) (fun x hx => by
        obtain ⟨h1, h2⟩ := hn.mem_erase_iff.1 hx
        have := h x h2
        omega)
      have := List.length_pos_of_mem hm
      omega
    · have := nodup_len' n l hn (fun x hx => by
        have h1 := h x hx
        have : x ≠ n := fun e => hm (e ▸ hx)
        omega)
      omega
theorem dropT {l : List S36} {j : Nat} (h : j < l.length) : l.drop j = rd_T36 l j :: l.drop (j + 1) := by
  rw [List.drop_eq_getElem_cons h]
  simp [rd_T36, List.getD_eq_getElem?_getD, List.getElem?_eq_getElem h]
theorem rdT_mem {l : List S36} {j : Nat} (h : j < l.length) : rd_T36 l (j : Int) ∈ l := by
  have : rd_T36 l (j : Int) = l[j] := by simp [rd_T36, List.getD_eq_getElem?_getD, List.getElem?_eq_getElem h]
  rw [this]; exact List.getElem_mem h
theorem dropL {l : List (List Int)} {j : Nat} (h : j < l.length) : l.drop j = nxL l j :: l.drop (j + 1) := by
  rw [List.drop_eq_getElem_cons h]
  simp [nxL, List.getD_eq_getElem?_getD, List.getElem?_eq_getElem h]
theorem nxL_mem {l : List (List Int)} {j : Nat} (h : j < l.length) : nxL l (j : Int) ∈ l := by
  have : nxL l (j : Int) = l[j] := by simp [nxL, List.getD_eq_getElem?_getD, List.getElem?_eq_getElem h]
  rw [this]; exact List.getElem_mem h
/-- How many rules each literal has. -/
def headsF : List S36 → List Int → List Int
  | [], h => h
  | r :: rs, h => headsF rs (h.set r.f1.toNat (rd h r.f1 + 1))
def rowSum (h : List Int) (q : Int) : List Int → Int
  | [] => 0
  | f :: l => rd h q * rd h f + rowSum h q l
def allSum (h : List Int) : Nat → List (List Int) → Int
  | _, [] => 0
  | q, r :: rs => rowSum h q r + allSum h (q + 1) rs
def pairsS (a0 : Int) (fo : List (List Int)) (rs : List S36) : Int := allSum (headsF rs (List.replicate a0.toNat 0)) 0 fo
theorem rd_bd {h : List Int} {m : Int} (hm : 0 ≤ m) (hb : ∀ y, y ∈ h → 0 ≤ y ∧ y ≤ m) (x : Int) : 0 ≤ rd h x ∧ rd h x ≤ m := by
  unfold rd
  rw [List.getD_eq_getElem?_getD]
  cases e : h[x.toNat]? with
  | none => simp; exact hm
  | some y => exact hb y (List.mem_of_getElem? e)
theorem rowSum_bd {h : List Int} (hb : ∀ y, y ∈ h → 0 ≤ y ∧ y ≤ 4096) (q : Int) : ∀ (l : List Int), 0 ≤ rowSum h q l ∧ rowSum h q l ≤ 16777216 * (l.length : Int)
  | [] => by simp [rowSum]
  | f :: l => by
    obtain ⟨i0, i1⟩ := rowSum_bd hb q l
    obtain ⟨x0, x1⟩ := rd_bd (m := 4096) (by omega) hb q
    obtain ⟨y0, y1⟩ := rd_bd (m := 4096) (by omega) hb f
    have z0 : 0 ≤ rd h q * rd h f := Int.mul_nonneg x0 y0
    have z1 : rd h q * rd h f ≤ 4096 * 4096 := Int.mul_le_mul x1 y1 y0 (by omega)
    simp only [rowSum, List.length_cons]
    omega
theorem pairs_l2 (h : List Int) (hb : ∀ y, y ∈ h → 0 ≤ y ∧ y ≤ 4096) (fo' : List (List Int)) (q : Nat) (hq : (q : Int) < h.length) (row : List Int) (hr : row.length ≤ 64) (hin : ∀ f, f ∈ row → 0 ≤ f ∧ f < h.length) (len i : Int) : ∀ (d j : Nat) (s : Int), j + d = row.length → 0 ≤ s → s + 16777216 * (d : Int) ≤ 4611686018427387904 → ∀ r', Ev (fun k => theory_pairs.l1 k h (s + rowSum h q (row.drop j)) fo' len (wrap64 (i + 1))) r' →
    Ev (fun k => theory_pairs.l2 k h s q fo' len i row (row.length : Int) j) r' := by
  intro d
  induction d with
  | zero =>
    intro j s hj h0 h1 r' hr'
    refine Ev.step (fun _ => rfl) ?_
    rw [List.drop_of_length_le (by omega)] at hr'
    simp only [rowSum, Int.add_zero] at hr'
    simp only [theory_pairs.l2, if_neg (show ¬ (j : Int) < (row.length : Int) by omega)]
    exact hr'
  | succ d ih =>
    intro j s hj h0 h1 r' hr'
    obtain ⟨g0, g1⟩ := hin _ (rd_mem (l := row) (j := j) (by omega))
    refine Ev.step (fun _ => rfl) ?_
    rw [dropR (by omega)] at hr'
    simp only [rowSum] at hr'
    simp only [theory_pairs.l2, if_pos (show (j : Int) < (row.length : Int) by omega), if_pos (show (0 : Int) ≤ (j : Int) by omega), if_pos (show (0 : Int) ≤ (q : Int) by omega), if_pos hq, if_pos g0, if_pos g1, wr_succ (show j ≤ 140737488351232 by omega)]
    obtain ⟨x0, x1⟩ := rd_bd (m := 4096) (by omega) hb q
    obtain ⟨y0, y1⟩ := rd_bd (m := 4096) (by omega) hb (rd row (j : Int))
    have z0 : 0 ≤ rd h q * rd h (rd row (j : Int)) := Int.mul_nonneg x0 y0
    have z1 : rd h q * rd h (rd row (j : Int)) ≤ 4096 * 4096 := Int.mul_le_mul x1 y1 y0 (by omega)
    rw [wr64 (x := rd h q * rd h (rd row (j : Int))) (by omega) (by omega)]
    rw [wr64 (x := s + rd h q * rd h (rd row (j : Int))) (by omega) (by omega)]
    rw [← Int.add_assoc] at hr'
    exact ih (j + 1) _ (by omega) (by omega) (by omega) r' hr'
theorem pairs_l1 (h : List Int) (hb : ∀ y, y ∈ h → 0 ≤ y ∧ y ≤ 4096) (fo : List (List Int)) (hlen : fo.length = h.length) (hn : fo.length ≤ 4096) (hr : ∀ r, r ∈ fo → r.length ≤ 64 ∧ ∀ f, f ∈ r → 0 ≤ f ∧ f < h.length) : ∀ (d q : Nat) (s : Int), q + d = fo.length → 0 ≤ s → s + 1073741824 * (d : Int) ≤ 4611686018427387904 - 1073741824 →
    Ev (fun k => theory_pairs.l1 k h s fo (fo.length : Int) q) (s + allSum h q (fo.drop q)) := by
  intro d
  induction d with
  | zero =>
    intro q s hq h0 h1
    refine Ev.step (fun _ => rfl) ?_
    rw [List.drop_of_length_le (by omega)]
    simp only [theory_pairs.l1, if_neg (show ¬ (q : Int) < (fo.length : Int) by omega), allSum, Int.add_zero]
    exact Ev.now _
  | succ d ih =>
    intro q s hq h0 h1
    obtain ⟨g1, g2⟩ := hr _ (nxL_mem (l := fo) (j := q) (by omega))
    obtain ⟨b0, b1⟩ := rowSum_bd hb q (nxL fo q)
    refine Ev.step (fun _ => rfl) ?_
    rw [dropL (by omega)]
    simp only [theory_pairs.l1, if_pos (show (q : Int) < (fo.length : Int) by omega), if_pos (show (0 : Int) ≤ (q : Int) by omega), rdL, allSum]
    refine pairs_l2 h hb fo q (by omega) (nxL fo q) g1 g2 _ _ (nxL fo q).length 0 s (by omega) h0 (by omega) _ ?_
    rw [wr_succ (show q ≤ 140737488351232 by omega), List.drop_zero, ← Int.add_assoc]
    exact ih (q + 1) _ (by omega) (by omega) (by omega)
theorem headsF_ok : ∀ (rs : List S36) (h : List Int) (m : Int), 0 ≤ m → (∀ y, y ∈ h → 0 ≤ y ∧ y ≤ m) → (∀ r, r ∈ rs → 0 ≤ r.f1 ∧ r.f1 < h.length) → (headsF rs h).length = h.length ∧ ∀ y, y ∈ headsF rs h → 0 ≤ y ∧ y ≤ m + rs.length
  | [], h, m, hm, hb, _ => ⟨rfl, fun y hy => by have := hb y hy; simp; omega⟩
  | r :: rs, h, m, hm, hb, hr => by
    have h1 := rd_bd hm hb r.f1
    have := headsF_ok rs (h.set r.f1.toNat (rd h r.f1 + 1)) (m + 1) (by omega) (fun y hy => by
      rcases List.mem_or_eq_of_mem_set hy with hy | hy
      · have := hb y hy; omega
      · omega) (fun r' hr' => by rw [List.length_set]; exact hr r' (List.mem_cons_of_mem _ hr'))
    rw [List.length_set] at this
    refine ⟨this.1, fun y hy => ?_⟩
    have := this.2 y hy
    simp only [List.length_cons]
    omega
theorem pairs_l0 {rs : List S36} {fo' : List (List Int)} {be : List (List Int)} {a0 : Int} (hr4 : rs.length ≤ 4096) (r : Int) : ∀ (d i : Nat) (h : List Int), i + d = rs.length → (∀ y, y ∈ h → 0 ≤ y ∧ y ≤ i) → (∀ x, x ∈ rs → 0 ≤ x.f1 ∧ x.f1 < h.length) →
    Ev (fun k => theory_pairs.l1 k (headsF (rs.drop i) h) 0 fo' (fo'.length : Int) 0) r → Ev (fun k => theory_pairs.l0 k h rs (rs.length : Int) i a0 fo' rs be) r := by
  intro d
  induction d with
  | zero =>
    intro i h hi hb hx hc
    refine Ev.step (fun _ => rfl) ?_
    rw [List.drop_of_length_le (by omega)] at hc
    simp only [theory_pairs.l0, if_neg (show ¬ (i : Int) < (rs.length : Int) by omega)]
    exact hc
  | succ d ih =>
    intro i h hi hb hx hc
    obtain ⟨g0, g1⟩ := hx _ (rdT_mem (l := rs) (j := i) (by omega))
    have hbd := rd_bd (m := (i : Int)) (by omega) hb (rd_T36 rs i).f1
    refine Ev.step (fun _ => rfl) ?_
    rw [dropT (by omega)] at hc
    simp only [headsF] at hc
    simp only [theory_pairs.l0, if_pos (show (i : Int) < (rs.length : Int) by omega), if_pos (show (0 : Int) ≤ (i : Int) by omega), if_pos g0, if_pos g1, wr_succ (show i ≤ 140737488351232 by omega)]
    rw [wr64 (x := rd h (rd_T36 rs i).f1 + 1) (by omega) (by omega)]
    refine ih (i + 1) _ (by omega) (fun y hy => ?_) (fun x hx' => by rw [List.length_set]; exact hx x hx') hc
    rcases List.mem_or_eq_of_mem_set hy with hy | hy
    · have := hb y hy; omega
    · omega
/-- What the first checks let by. -/
structure Pre (a0 : Int) (fo : List (List Int)) (rs : List S36) : Prop where
  an : 0 ≤ a0 ∧ a0 ≤ 4096
  len : (fo.length : Int) = a0
  row : ∀ r, r ∈ fo → r.length ≤ 64 ∧ ris r a0 = true
  r4 : rs.length ≤ 4096
  rule : ∀ r, r ∈ rs → ruleB a0 r = true
theorem rule_of {a0 : Int} {r : S36} (h : ruleB a0 r = true) : (1 ≤ r.f0 ∧ r.f0 ≤ 3) ∧ (0 ≤ r.f1 ∧ r.f1 < a0) ∧ r.f2.length ≤ 16 ∧ ris r.f2 a0 = true := by
  unfold ruleB at h
  simp only [Bool.and_eq_true, decide_eq_true_eq] at h
  obtain ⟨⟨⟨⟨⟨h1, h2⟩, h3⟩, h4⟩, h5⟩, h6⟩ := h
  exact ⟨⟨h1, h2⟩, ⟨h3, h4⟩, by omega, h6⟩
theorem pairs_ev {a0 : Int} {fo be : List (List Int)} {rs : List S36} (h : Pre a0 fo rs) : Ev (fun k => theory_pairs.f k a0 fo rs be) (pairsS a0 fo rs) := by
  unfold theory_pairs.f
  have ha := h.an
  have hl := h.len
  simp only [if_pos h.an.1, if_pos (show a0.toNat ≤ 35184372088832 by omega)]
  have hok := headsF_ok rs (List.replicate a0.toNat 0) 0 (by omega) (fun y hy => by rw [(List.mem_replicate.1 hy).2]; omega) (fun r hr => by
    have := (rule_of (h.rule r hr)).2.1
    rw [List.length_replicate]; omega)
  rw [List.length_replicate] at hok
  have h4 := h.r4
  refine pairs_l0 h.r4 _ rs.length 0 (List.replicate a0.toNat 0) (by omega) (fun y hy => by rw [(List.mem_replicate.1 hy).2]; omega) (fun r hr => by
    have := (rule_of (h.rule r hr)).2.1
    rw [List.length_replicate]; omega) ?_
  rw [List.drop_zero]
  have := pairs_l1 (headsF rs (List.replicate a0.toNat 0)) (fun y hy => by have := hok.2 y hy; omega) fo (by omega) (by omega) (fun r hr => ⟨(h.row r hr).1, fun f hf => by have := (ris_iff.1 (h.row r hr).2).1 f hf; omega⟩) fo.length 0 0 (by omega) (by omega) (by omega)
  rw [List.drop_zero, Int.zero_add] at this
  exact this
/-- Does a rule's list name rules whose heads are not foes of its head? -/
def badBeat (fo : List (List Int)) (rs : List S36) (be : List (List Int)) (i : Int) : Bool := !ris (nxL be i) rs.length || !(nxL be i).all (fun s => (nxL fo (rd_T36 rs i).f1).contains (rd_T36 rs s).f1)
def beatsS (fo : List (List Int)) (rs : List S36) (be : List (List Int)) : Int := fstB (fun i => badBeat fo rs be i) be.length 0
theorem beats_l1 {a0 : Int} {fo be : List (List Int)} {rs : List S36} (h : Pre a0 fo rs) (i : Nat) (hi : i < rs.length) (row : List Int) (hrl : row.length ≤ 4096) (hin : ∀ s, s ∈ row → 0 ≤ s ∧ s < rs.length) (len : Int) (r : Int) (hc : Ev (fun k => theory_beats.l0 k be len (wrap64 ((i : Int) + 1)) a0 fo rs be) r) :
    ∀ (d j : Nat), j + d = row.length → Ev (fun k => theory_beats.l1 k i be len i row (row.length : Int) j a0 fo rs be) (if (row.drop j).all (fun s => (nxL fo (rd_T36 rs i).f1).contains (rd_T36 rs s).f1) = true then r else i) := by
  have hlen := h.len
  intro d
  induction d with
  | zero =>
    intro j hj
    refine Ev.step (fun _ => rfl) ?_
    rw [List.drop_of_length_le (by omega)]
    simp only [theory_beats.l1, if_neg (show ¬ (j : Int) < (row.length : Int) by omega), List.all_nil, if_true]
    exact hc
  | succ d ih =>
    intro j hj
    obtain ⟨g0, g1⟩ := hin _ (rd_mem (l := row) (j := j) (by omega))
    have hh := (rule_of (h.rule _ (rdT_mem (l := rs) (j := i) hi))).2.1
    have hrow : nxL fo (rd_T36 rs i).f1 ∈ fo := by
      have := nxL_mem (l := fo) (j := (rd_T36 rs i).f1.toNat) (by omega)
      rwa [Int.toNat_of_nonneg hh.1] at this
    refine Ev.step (fun _ => rfl) ?_
    rw [dropR (by omega)]
    simp only [theory_beats.l1, if_pos (show (j : Int) < (row.length : Int) by omega), if_pos (show (0 : Int) ≤ (j : Int) by omega), if_pos (show (0 : Int) ≤ (i : Int) by omega), if_pos (show (i : Int) < (rs.length : Int) by omega), if_pos hh.1, if_pos (show (rd_T36 rs i).f1 < (fo.length : Int) by omega), if_pos g0, if_pos g1, rdL, List.all_cons]
    refine Ev.bind (has_ev _ (by have := (h.row _ hrow).1; omega) (ris_iff.1 (h.row _ hrow).2).2) ?_
    by_cases hcon : (nxL fo (rd_T36 rs i).f1).contains (rd_T36 rs (rd row (j : Int))).f1 = true
    · simp only [if_pos hcon, hcon, Bool.true_and, wr_succ (show j ≤ 140737488351232 by omega)]
      exact ih (j + 1) (by omega)
    · simp only [if_neg hcon, Bool.eq_false_iff.2 hcon, Bool.false_and, Bool.false_eq_true, if_false]
      exact Ev.now _
theorem beats_l0 {a0 : Int} {fo be : List (List Int)} {rs : List S36} (h : Pre a0 fo rs) (hbl : be.length = rs.length) (hw : ∀ r, r ∈ be → WfRow r) : ∀ (d i : Nat), i + d = be.length → Ev (fun k => theory_beats.l0 k be (be.length : Int) i a0 fo rs be) (fstB (fun q => badBeat fo rs be q) d i) := by
  have h4 := h.r4
  intro d
  induction d with
  | zero =>
    intro i hi
    refine Ev.step (fun _ => rfl) ?_
    simp only [theory_beats.l0, if_neg (show ¬ (i : Int) < (be.length : Int) by omega)]
    exact Ev.now _
  | succ d ih =>
    intro i hi
    have hb : ∀ b : Bool, badBeat fo rs be i = b → fstB (fun q => badBeat fo rs be q) (d + 1) i = if b = true then (i : Int) else fstB (fun q => badBeat fo rs be q) d (i + 1) := fun b e => by
      show (if badBeat fo rs be i = true then _ else _) = _
      rw [e]
    refine Ev.step (fun _ => rfl) ?_
    simp only [theory_beats.l0, if_pos (show (i : Int) < (be.length : Int) by omega), if_pos (show (0 : Int) ≤ (i : Int) by omega), rdL]
    have hrow := row_wf hw (i : Int)
    refine Ev.bind (rising_ev _ hrow) ?_
    by_cases hri : ris (nxL be i) (rs.length : Int) = true
    rotate_left
    · simp only [if_neg hri]
      rw [hb true (by unfold badBeat; rw [Bool.eq_false_iff.2 hri]; simp), if_pos rfl]
      exact Ev.now _
    · simp only [if_pos hri]
      have hris := ris_iff.1 hri
      have hrl : (nxL be i).length ≤ 4096 := by
        have := Go.Proofs.Ytpcaonkahhbgfaa.P.nodup_len' rs.length (nxL be i) (ris_nodup hri) hris.1
        omega
      have := beats_l1 (a0 := a0) (be := be) h i (by omega) (nxL be i) hrl hris.1 (be.length : Int) _ (by rw [wr_succ (show i ≤ 140737488351232 by omega)]; exact ih (i + 1) (by omega)) (nxL be i).length 0 (by omega)
      rw [List.drop_zero] at this
      have e : badBeat fo rs be i = !((nxL be i).all fun s => (nxL fo (rd_T36 rs i).f1).contains (rd_T36 rs s).f1) := by
        unfold badBeat
        rw [hri]
        simp only [Bool.not_true, Bool.false_or]
      rw [hb _ e]
      by_cases hall : ((nxL be i).all fun s => (nxL fo (rd_T36 rs i).f1).contains (rd_T36 rs s).f1) = true
      · rw [if_pos hall] at this
        rw [if_neg (by rw [hall]; decide)]
        exact this
      · rw [if_neg hall] at this
        rw [if_pos (by rw [Bool.eq_false_iff.2 hall]; decide)]
        exact this

theorem cnt_ok : ∀ (xs sz : List Int) (m : Int), 0 ≤ m → (∀ y, y ∈ sz → 0 ≤ y ∧ y ≤ m) → m + xs.length ≤ 100000 → (∀ x, x ∈ xs → 0 ≤ x ∧ x < sz.length) → ∃ r, cntF xs sz = some r ∧ r.length = sz.length ∧ ∀ x : Int, 0 ≤ x → x < sz.length → ga r x = ga sz x + (xs.count x : Nat)
  | [], sz, m, hm, hb, _, _ => ⟨sz, rfl, rfl, fun x _ _ => by simp⟩
  | a :: xs, sz, m, hm, hb, hs, hx => by
    obtain ⟨h0, h1⟩ := hx a (List.mem_cons_self ..)
    have hbd : 0 ≤ ga sz a ∧ ga sz a ≤ m := rd_bd hm hb a
    simp only [List.length_cons] at hs
    obtain ⟨r, r1, r2, r3⟩ := cnt_ok xs (sz.set a.toNat (ga sz a + 1)) (m + 1) (by omega) (fun y hy => by
      rcases List.mem_or_eq_of_mem_set hy with hy | hy
      · have := hb y hy; omega
      · omega) (by omega) (fun x hx' => by rw [List.length_set]; exact hx x (List.mem_cons_of_mem _ hx'))
    rw [List.length_set] at r2 r3
    refine ⟨r, ?_, r2, fun x g0 g1 => ?_⟩
    · unfold cntF
      rw [if_pos ⟨⟨h0, h1⟩, hbd.1, by omega⟩]
      exact r1
    · rw [r3 x g0 g1, ga_set h0 g0 h1, List.count_cons]
      by_cases e : x = a
      · subst e
        rw [if_pos rfl]
        simp
        omega
      · rw [if_neg e]
        have : (a == x) = false := by simpa using fun h => e h.symm
        rw [this]
        simp
theorem circ_ok {be : List (List Int)} (hn : be.length ≤ 4096) (hin : ∀ r, r ∈ be → ∀ y, y ∈ r → 0 ≤ y ∧ y < be.length) : ∃ (s : KS) (sz : List Int), circF be.length be = some (idxF (fun x => decide (1 < ga sz x)) s.of 0) ∧ Knots (nxL be) be.length s.of s.kn ∧ ∀ x : Int, 0 ≤ x → x < s.kn → ga sz x = (s.of.count x : Nat) := by
  have hnx : ∀ x, V (be.length : Int) x → ∀ y, y ∈ nxL be x → V (be.length : Int) y := fun x hx y hy => by
    unfold nxL at hy
    rw [List.getD_eq_getElem?_getD] at hy
    cases e : be[x.toNat]? with
    | none => rw [e] at hy; simp at hy
    | some r => rw [e] at hy; exact hin r (List.mem_of_getElem? e) y hy
  obtain ⟨s, h1, hK⟩ := knot_ok (nx := nxL be) (n := (be.length : Int)) (by omega) (by omega) hnx
  have k0 := hK.kn0
  have kn := hK.knn
  have hl := hK.len
  have hof : ∀ x, x ∈ s.of → 0 ≤ x ∧ x < s.kn := fun x hx => by
    obtain ⟨i, hi, e⟩ := List.getElem_of_mem hx
    have := hK.rng i ⟨by omega, by omega⟩
    have e2 : ga s.of i = x := by rw [← e]; simp [ga, List.getD_eq_getElem?_getD, List.getElem?_eq_getElem hi]
    rw [e2] at this
    exact this
  obtain ⟨sz, c1, c2, c3⟩ := cnt_ok s.of (List.replicate s.kn.toNat 0) 0 (by omega) (fun y hy => by rw [(List.mem_replicate.1 hy).2]; omega) (by omega) (fun x hx => by have := hof x hx; rw [List.length_replicate]; omega)
  rw [List.length_replicate] at c2 c3
  refine ⟨s, sz, ?_, hK, fun x g0 g1 => ?_⟩
  · unfold circF
    rw [if_pos ⟨rfl, hn⟩, h1]
    simp only [Option.bind_some]
    rw [if_pos ⟨k0, by omega⟩, c1]
    simp only [Option.bind_some]
    rw [if_pos]
    refine List.all_eq_true.2 (fun x hx => ?_)
    have := hof x hx
    rw [c2, Bool.and_eq_true, decide_eq_true_eq, decide_eq_true_eq]
    omega
  · rw [c3 x g0 (by omega)]
    have : ga (List.replicate s.kn.toNat 0) x = 0 := by
      unfold ga
      rw [List.getD_eq_getElem?_getD, List.getElem?_replicate]
      split <;> rfl
    rw [this, Int.zero_add]
def circS (n : Nat) (be : List (List Int)) : Int := (circF n be).getD (-1)
def rulesS (a0 : Int) (rs : List S36) : Int := fstB (fun i => !ruleB a0 (rd_T36 rs i)) rs.length 0
def chkS (a0 : Int) (fo : List (List Int)) (rs : List S36) (be : List (List Int)) : Int × Int :=
  if a0 < 0 ∨ a0 > 4096 then (112, 0) else if (fo.length : Int) ≠ a0 then (121, 0) else if foesS a0 fo ≥ 0 then (121, foesS a0 fo) else if (rs.length : Int) > 4096 then (111, 0) else if rulesS a0 rs ≥ 0 then (122, rulesS a0 rs) else
  if pairsS a0 fo rs > 65536 then (113, 0) else if (be.length : Int) ≠ rs.length then (123, 0) else if beatsS fo rs be ≥ 0 then (123, beatsS fo rs be) else if circS rs.length be ≥ 0 then (131, circS rs.length be) else (0, 0)
theorem pre_of {a0 : Int} {fo : List (List Int)} {rs : List S36} (h0 : ¬ (a0 < 0 ∨ a0 > 4096)) (h1 : (fo.length : Int) = a0) (h2 : ¬ foesS a0 fo ≥ 0) (h3 : ¬ (rs.length : Int) > 4096) (h4 : ¬ rulesS a0 rs ≥ 0) : Pre a0 fo rs := by
  refine ⟨by omega, h1, fun r hr => ?_, by omega, fun r hr => ?_⟩
  · obtain ⟨q, hq, e⟩ := List.getElem_of_mem hr
    have := (fstB_neg (p := fun q => badFoe a0 fo q) (d := fo.length) (i := 0)).1 (by unfold foesS at h2; omega) q (by omega) (by omega)
    have en : nxL fo (q : Int) = r := by rw [← e]; simp [nxL, List.getD_eq_getElem?_getD, List.getElem?_eq_getElem hq]
    unfold badFoe at this
    rw [en] at this
    simp only [Bool.or_eq_false_iff, decide_eq_false_iff_not, Bool.not_eq_false'] at this
    exact ⟨by omega, this.1.1.2⟩
  · obtain ⟨q, hq, e⟩ := List.getElem_of_mem hr
    have := (fstB_neg (p := fun i => !ruleB a0 (rd_T36 rs i)) (d := rs.length) (i := 0)).1 (by unfold rulesS at h4; omega) q (by omega) (by omega)
    have en : rd_T36 rs (q : Int) = r := by rw [← e]; simp [rd_T36, List.getD_eq_getElem?_getD, List.getElem?_eq_getElem hq]
    rw [en] at this
    simpa using this
theorem check_l0 {a0 : Int} {fo be : List (List Int)} {rs : List S36} (hr4 : rs.length ≤ 4096) (r : Int × Int) : ∀ (d i : Nat), i + d = rs.length → (fstB (fun i => !ruleB a0 (rd_T36 rs i)) d i < 0 → Ev (fun k => theory_Check.l0 k rs (rs.length : Int) (rs.length : Nat) a0 fo rs be) r) →
    (¬ fstB (fun i => !ruleB a0 (rd_T36 rs i)) d i < 0 → r = (122, fstB (fun i => !ruleB a0 (rd_T36 rs i)) d i)) → Ev (fun k => theory_Check.l0 k rs (rs.length : Int) i a0 fo rs be) r := by
  intro d
  induction d with
  | zero =>
    intro i hi h1 _
    have : i = rs.length := by omega
    subst this
    exact h1 (by simp [fstB])
  | succ d ih =>
    intro i hi h1 h2
    by_cases hb : ruleB a0 (rd_T36 rs i) = true
    · have e : fstB (fun i => !ruleB a0 (rd_T36 rs i)) (d + 1) i = fstB (fun i => !ruleB a0 (rd_T36 rs i)) d (i + 1) := by
        show (if (!ruleB a0 (rd_T36 rs i)) = true then _ else _) = _
        rw [hb]; rfl
      rw [e] at h1 h2
      refine Ev.step (fun _ => rfl) ?_
      simp only [theory_Check.l0, if_pos (show (i : Int) < (rs.length : Int) by omega), if_pos (show (0 : Int) ≤ (i : Int) by omega)]
      refine Ev.bind (rule_ev _) ?_
      simp only [if_pos hb, wr_succ (show i ≤ 140737488351232 by omega)]
      exact ih (i + 1) (by omega) h1 h2
    · have e : fstB (fun i => !ruleB a0 (rd_T36 rs i)) (d + 1) i = (i : Int) := by
        show (if (!ruleB a0 (rd_T36 rs i)) = true then _ else _) = _
        rw [Bool.eq_false_iff.2 hb]; rfl
      rw [e] at h2
      rw [h2 (by omega)]
      refine Ev.step (fun _ => rfl) ?_
      simp only [theory_Check.l0, if_pos (show (i : Int) < (rs.length : Int) by omega), if_pos (show (0 : Int) ≤ (i : Int) by omega)]
      refine Ev.bind (rule_ev _) ?_
      simp only [if_neg hb]
      exact Ev.now _
def WfRows (l : List (List Int)) : Prop := ∀ r, r ∈ l → WfRow r
theorem beats_in {fo be : List (List Int)} {rs : List S36} (hbl : be.length = rs.length) (h : ¬ beatsS fo rs be ≥ 0) : ∀ r, r ∈ be → ris r be.length = true := fun r hr => by
  obtain ⟨q, hq, e⟩ := List.getElem_of_mem hr
  have := (fstB_neg (p := fun q => badBeat fo rs be q) (d := be.length) (i := 0)).1 (by unfold beatsS at h; omega) q (by omega) (by omega)
  have en : nxL be (q : Int) = r := by rw [← e]; simp [nxL, List.getD_eq_getElem?_getD, List.getElem?_eq_getElem hq]
  unfold badBeat at this
  rw [en] at this
  simp only [Bool.or_eq_false_iff, Bool.not_eq_false'] at this
  rw [hbl]
  exact this.1
theorem check_ev {a0 : Int} {fo be : List (List Int)} {rs : List S36} (hf : WfRows fo) (hb : WfRows be) : Ev (fun k => theory_Check.f k a0 fo rs be) (chkS a0 fo rs be) := by
  unfold theory_Check.f
  have j1 : Ev (fun k => theory_Check.j0 k true a0 fo rs be) (112, 0) := by
    refine Ev.step (fun _ => rfl) ?_
    simp only [theory_Check.j0, if_true]
    exact Ev.now _
  by_cases h0 : a0 < 0
  · simp only [if_pos h0]
    unfold chkS
    rw [if_pos (.inl h0)]
    exact j1
  · simp only [if_neg h0]
    by_cases h0' : a0 > 4096
    · unfold chkS
      rw [if_pos (.inr h0'), decide_eq_true h0']
      exact j1
    · rw [decide_eq_false h0']
      have hh0 : ¬ (a0 < 0 ∨ a0 > 4096) := by omega
      unfold chkS
      rw [if_neg hh0]
      refine Ev.step (fun _ => rfl) ?_
      simp only [theory_Check.j0, Bool.false_eq_true, if_false]
      by_cases h1 : (fo.length : Int) = a0
      rotate_left
      · simp only [if_neg h1]
        rw [if_pos h1]
        exact Ev.now _
      · simp only [if_pos h1]
        rw [if_neg (fun h => h h1)]
        refine Ev.bind (foes_ev h1 (by omega) hf) ?_
        by_cases h2 : foesS a0 fo ≥ 0
        · simp only [h2, if_true]
          exact Ev.now _
        · simp only [h2, if_false]
          by_cases h3 : (rs.length : Int) > 4096
          · simp only [h3, if_true]
            exact Ev.now _
          · simp only [h3, if_false]
            refine check_l0 (by omega) _ rs.length 0 (by omega) (fun h4 => ?_) (fun h4 => ?_)
            · have h4' : ¬ rulesS a0 rs ≥ 0 := by unfold rulesS; omega
              rw [if_neg h4']
              have hp := pre_of hh0 h1 h2 h3 h4'
              refine Ev.step (fun _ => rfl) ?_
              simp only [theory_Check.l0, if_neg (show ¬ ((rs.length : Nat) : Int) < (rs.length : Int) by omega)]
              refine Ev.bind (pairs_ev hp) ?_
              by_cases h5 : pairsS a0 fo rs > 65536
              · simp only [h5, if_true]
                exact Ev.now _
              · simp only [h5, if_false]
                by_cases h6 : (be.length : Int) = rs.length
                rotate_left
                · simp only [if_neg h6]
                  rw [if_pos h6]
                  exact Ev.now _
                · simp only [if_pos h6]
                  rw [if_neg (fun h => h h6)]
                  refine Ev.bind (beats_l0 hp (by omega) hb be.length 0 (by omega)) ?_
                  show Ev (fun k => if beatsS fo rs be ≥ 0 then _ else _) _
                  by_cases h7 : beatsS fo rs be ≥ 0
                  · simp only [h7, if_true]
                    exact Ev.now _
                  · simp only [h7, if_false]
                    obtain ⟨s, sz, c1, _⟩ := circ_ok (be := be) (by omega) (fun r hr => (ris_iff.1 (beats_in (by omega) h7 r hr)).1)
                    rw [show be.length = rs.length by omega] at c1
                    unfold theory_circle.f
                    have e : circS rs.length be = idxF (fun x => decide (1 < ga sz x)) s.of 0 := by unfold circS; rw [c1]; rfl
                    rw [e]
                    simp only [c1, Option.bind_some]
                    by_cases h8 : idxF (fun x => decide (1 < ga sz x)) s.of 0 ≥ 0
                    · simp only [h8, if_true]
                      exact Ev.now _
                    · simp only [h8, if_false]
                      exact Ev.now _
            · have h4' : rulesS a0 rs ≥ 0 := by unfold rulesS; omega
              rw [if_pos h4']
              rfl
theorem check_pre {a0 : Int} {fo be : List (List Int)} {rs : List S36} (h : (chkS a0 fo rs be).1 = 0) : Pre a0 fo rs ∧ be.length = rs.length ∧ ¬ foesS a0 fo ≥ 0 ∧ ¬ beatsS fo rs be ≥ 0 ∧ ¬ circS rs.length be ≥ 0 := by
  unfold chkS at h
  by_cases h0 : a0 < 0 ∨ a0 > 4096
  · rw [if_pos h0] at h; cases h
  rw [if_neg h0] at h
  by_cases h1 : (fo.length : Int) ≠ a0
  · rw [if_pos h1] at h; cases h
  rw [if_neg h1] at h
  by_cases h2 : foesS a0 fo ≥ 0
  · rw [if_pos h2] at h; cases h
  rw [if_neg h2] at h
  by_cases h3 : (rs.length : Int) > 4096
  · rw [if_pos h3] at h; cases h
  rw [if_neg h3] at h
  by_cases h4 : rulesS a0 rs ≥ 0
  · rw [if_pos h4] at h; cases h
  rw [if_neg h4] at h
  by_cases h5 : pairsS a0 fo rs > 65536
  · rw [if_pos h5] at h; cases h
  rw [if_neg h5] at h
  by_cases h6 : (be.length : Int) ≠ rs.length
  · rw [if_pos h6] at h; cases h
  rw [if_neg h6] at h
  by_cases h7 : beatsS fo rs be ≥ 0
  · rw [if_pos h7] at h; cases h
  rw [if_neg h7] at h
  by_cases h8 : circS rs.length be ≥ 0
  · rw [if_pos h8] at h; cases h
  exact ⟨pre_of h0 (by omega) h2 h3 h4, by omega, h2, h7, h8⟩
end
end Go.Proofs.Ytpcaonkahhbgfaa.P
/- A theory that came in, opened; whole numbers that came in. -/
namespace Go.Proofs.Ytpcaonkahhbgfaa.P
open Go.RowKit Go.Proofs.YtpcaonkahhbgfaaW.PrintWords Go.Proofs.YtpcaonkahhbgfaaW.PrintLast
set_option linter.unusedVariables false
def I64 (x : Int) : Prop := -9223372036854775808 ≤ x ∧ x ≤ 9223372036854775807
theorem i64_of {x : Int} (h : (Lit.int .i64 x).wf = true) : I64 x := by
  simp [Lit.wf, IntKind.min, IntKind.max, IntKind.signed, IntKind.bits] at h
  unfold I64
  omega
def WfInts (l : List Int) : Prop := WfRow l ∧ ∀ x ∈ l, I64 x
abbrev ThyL := Int × List (List Int) × List S36 × List (List Int)
def WfThy (t : ThyL) : Prop := I64 t.1 ∧ (WfRows t.2.1 ∧ t.2.1.length * 24 ≤ 140737488351232) ∧ (t.2.2.1.length * 40 ≤ 140737488351232 ∧ ∀ r ∈ t.2.2.1, I64 r.f0 ∧ I64 r.f1 ∧ WfInts r.f2) ∧ (WfRows t.2.2.2 ∧ t.2.2.2.length * 24 ≤ 140737488351232)
def thyK : Kd ThyL := Kd.pair (Kd.int .i64) (Kd.pair (Kd.slice 26 (Kd.slice 3 (Kd.int .i64))) (Kd.pair (Kd.slice 36 k36) (Kd.slice 26 (Kd.slice 3 (Kd.int .i64)))))
section
variable {H : Type} {enc : TypeId × Value → H} {W : World}
theorem opn_int : Opn enc Try.prog W (Kd.int .i64) 3 I64 := (Opn.int Try.underlying3).imp fun _ h => i64_of h
theorem opn_arrow : Opn enc Try.prog W (Kd.int .i64) 34 I64 := (Opn.int Try.underlying34).imp fun _ h => i64_of h
theorem row_of {l : List Int} (h : l.length * Try.prog.bytesOf 3 ≤ 140737488351232) : WfRow l := by
  have e : Try.prog.bytesOf 3 = 8 := by kernel_rfl
  rw [e] at h
  exact h
theorem opn_ints : Opn enc Try.prog W (Kd.slice 3 (Kd.int .i64)) 26 WfInts :=
  (Opn.slice Try.underlying26 (by kernel_rfl) opn_int).imp fun l h => ⟨row_of h.1, h.2⟩
theorem opn_rows : Opn enc Try.prog W (Kd.slice 26 (Kd.slice 3 (Kd.int .i64))) 22 (fun l => WfRows l ∧ l.length * 24 ≤ 140737488351232) :=
  (Opn.slice Try.underlying22 (by kernel_rfl) opn_ints).imp fun l h => ⟨fun r hr => (h.2 r hr).1, (show Try.prog.bytesOf 26 = 24 by kernel_rfl) ▸ h.1⟩
theorem opn_rule : Opn enc Try.prog W k36 36 (fun r => I64 r.f0 ∧ I64 r.f1 ∧ WfInts r.f2) :=
  (Opn.iso (Opn.struct Try.underlying36 (by kernel_rfl) (OpnF.cons rfl (by kernel_rfl) opn_arrow (OpnF.cons rfl (by kernel_rfl) opn_int (OpnF.one rfl (by kernel_rfl) opn_ints)))) (fun x : S36 => (x.f0, x.f1, x.f2)) (fun p => ⟨p.1, p.2.1, p.2.2⟩) (fun _ => rfl)).imp fun _ h => h
theorem opn_rules : Opn enc Try.prog W (Kd.slice 36 k36) 23 (fun l => l.length * 40 ≤ 140737488351232 ∧ ∀ r ∈ l, I64 r.f0 ∧ I64 r.f1 ∧ WfInts r.f2) :=
  (Opn.slice Try.underlying23 (by kernel_rfl) opn_rule).imp fun l h => ⟨(show Try.prog.bytesOf 36 = 40 by kernel_rfl) ▸ h.1, h.2⟩
theorem opn_thy : Opn enc Try.prog W thyK 25 WfThy :=
  (Opn.struct Try.underlying25 (by kernel_rfl) (OpnF.cons rfl (by kernel_rfl) opn_int (OpnF.cons rfl (by kernel_rfl) opn_rows (OpnF.cons rfl (by kernel_rfl) opn_rules (OpnF.one rfl (by kernel_rfl) opn_rows))))).imp fun _ h => h
end
theorem thy_open {W : World} {t : ThyL} {cs : List Value} (h : thyK.K W t cs) : ∃ A1 c1 A2 c2 A3 c3, cs = [.int .i64 t.1, .slice A1 t.2.1.length c1, .slice A2 t.2.2.1.length c2, .slice A3 t.2.2.2.length c3] ∧
    ((Kd.slice 3 (Kd.int .i64)).C W A1 t.2.1.length t.2.1 ∧ t.2.1.length ≤ c1) ∧ (Kd.C k36 W A2 t.2.2.1.length t.2.2.1 ∧ t.2.2.1.length ≤ c2) ∧ ((Kd.slice 3 (Kd.int .i64)).C W A3 t.2.2.2.length t.2.2.2 ∧ t.2.2.2.length ≤ c3) := by
  obtain ⟨_, _, rfl, rfl, ⟨_, _, rfl, ⟨A1, c1, rfl, l1, g1⟩, ⟨_, _, rfl, ⟨A2, c2, rfl, l2, g2⟩, ⟨A3, c3, rfl, l3, g3⟩⟩⟩⟩ := h
  exact ⟨A1, c1, A2, c2, A3, c3, rfl, ⟨g1, l1⟩, ⟨g2, l2⟩, ⟨g3, l3⟩⟩
theorem agg_cells {cs : Array Value} {l : List Value} (h : (Value.agg cs).cells.toList = l) : cs = l.toArray := by
  have : cs.toList = l := h
  rw [← this]
end Go.Proofs.Ytpcaonkahhbgfaa.P
