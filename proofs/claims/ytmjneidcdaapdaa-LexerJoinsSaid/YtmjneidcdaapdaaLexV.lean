/- The lexer, plainly: a token's text alone is that token. -/
import Derived.Test.YtmjneidcdaapdaaLexT
namespace Go.Proofs.Ytmjneidcdaapdaa.P
open Go.RowKit Go.Proofs.YtmjneidcdaapdaaW.PrintWords Go.Proofs.YtmjneidcdaapdaaW.PrintLast
set_option linter.unusedVariables false
set_option linter.unusedSimpArgs false

theorem runN_B (s : ByteArray) (G : Int → Bool) : ∀ n p, runN s G n p = runN' s (fun c => G (clsI c)) n p
  | 0, _ => rfl
  | n + 1, p => by simp only [runN, runN']; rw [runN_B s G n (p + 1)]
theorem runI_B (s : ByteArray) (G : Int → Bool) (p : Nat) : runI s G p = runB s (fun c => G (clsI c)) p := runN_B s G _ p
theorem runI_spec (s : ByteArray) (G : Int → Bool) {p : Nat} (h : p ≤ s.size) : p ≤ runI s G p ∧ runI s G p ≤ s.size ∧ (∀ j : Nat, p ≤ j → j < runI s G p → G (clsI (bt s j)) = true) ∧ (runI s G p < s.size → G (clsI (bt s (runI s G p))) = false) := by
  rw [runI_B]; exact runB_spec s (fun c => G (clsI c)) h
theorem runB_uniq (s : ByteArray) (Q : Int → Bool) {p q : Nat} (hpq : p ≤ q) (hq : q ≤ s.size) (h1 : ∀ j : Nat, p ≤ j → j < q → Q (bt s j) = true) (h2 : q < s.size → Q (bt s q) = false) : runB s Q p = q := by
  obtain ⟨a, b, c, d⟩ := runB_spec s Q (p := p) (by omega)
  rcases Nat.lt_trichotomy (runB s Q p) q with h | h | h
  · have := h1 _ a h
    rw [d (by omega)] at this
    cases this
  · exact h
  · have := c q hpq h
    rw [h2 (by omega)] at this
    cases this
theorem runI_uniq (s : ByteArray) (G : Int → Bool) {p q : Nat} (hpq : p ≤ q) (hq : q ≤ s.size) (h1 : ∀ j : Nat, p ≤ j → j < q → G (clsI (bt s j)) = true) (h2 : q < s.size → G (clsI (bt s q)) = false) : runI s G p = q := by
  rw [runI_B]; exact runB_uniq s _ hpq hq h1 h2
/-- t is a piece of s. -/
structure Piece (s t : ByteArray) (p : Nat) : Prop where
  le : p + t.size ≤ s.size
  at_ : ∀ i : Nat, i < t.size → bt t i = bt s ((p + i : Nat) : Int)
  ext : t = s.extract p (p + t.size)
theorem piece (s : ByteArray) (p q : Nat) (h : p ≤ q) (hq : q ≤ s.size) : Piece s (s.extract p q) p ∧ (s.extract p q).size = q - p := by
  have hz : (s.extract p q).size = q - p := by simp; omega
  refine ⟨⟨by omega, fun i hi => ?_, by rw [hz, show p + (q - p) = q by omega]⟩, hz⟩
  rw [bt_get _ i hi, bt_get s (p + i) (by omega)]
  simp [ByteArray.getElem_extract]
theorem put_end (t : ByteArray) (k : Int) (T : List Tk) (R : List ByteArray) : putP t 0 k t.size T R = (true, t.size, T ++ [⟨k, t, 0⟩], R, 0, 0) := by
  unfold putP
  rw [if_neg (fun x => absurd x.1 (Nat.lt_irrefl _))]
  simp
theorem scan_one (t : ByteArray) (k : Int) (h0 : 0 < t.size) (hs : t.size ≤ 65536) (hn : nexP t 0 [] [] = (true, t.size, [⟨k, t, 0⟩], [], 0, 0)) : scanP t = ([⟨k, t, 0⟩], [], 0, (t.size : Int)) := by
  unfold scanP
  rw [if_neg (by omega), scanF_go h0 (by rw [hn]), hn, scanF_end (Nat.lt_irrefl _)]
theorem Piece.zero {s t : ByteArray} {p : Nat} (h : Piece s t p) (h0 : 0 < t.size) : bt t 0 = bt s p := by
  have := h.at_ 0 h0
  simpa using this
theorem Piece.word {s t : ByteArray} {p : Nat} (h : Piece s t p) (h0 : 0 < t.size) {k : Int} {G : Int → Bool} (hr : runI s G p = p + t.size) (h32 : t.size ≤ 32) : wordP t 0 k G [] [] = (true, t.size, [⟨k, t, 0⟩], [], 0, 0) := by
  have hle := h.le
  obtain ⟨a, b, c, d⟩ := runI_spec s G (p := p) (by omega)
  have : runI t G 0 = t.size := by
    refine runI_uniq t G (Nat.zero_le _) (Nat.le_refl _) (fun j _ hj => ?_) (fun x => absurd x (Nat.lt_irrefl _))
    have e := h.at_ j hj
    rw [e]
    exact c (p + j) (by omega) (by omega)
  unfold wordP
  rw [this, if_neg (by omega), put_end]
  rfl
theorem Piece.date {s t : ByteArray} {p : Nat} (h : Piece s t p) (hd : dateI s p = true) (h10 : t.size = 10) : dateI t 0 = true := by
  unfold dateI at hd ⊢
  simp only [Bool.and_eq_true, decide_eq_true_eq] at hd ⊢
  refine ⟨by omega, ?_⟩
  have key : ∀ n i, i + n = 10 → dFrom t 0 n i = dFrom s p n i := by
    intro n
    induction n with
    | zero => intro i _; rfl
    | succ n IH =>
      intro i hi
      simp only [dFrom]
      rw [IH (i + 1) (by omega)]
      have : dOk t 0 i = dOk s p i := by
        unfold dOk
        have e := h.at_ i (by omega)
        rw [Nat.zero_add, e]
      rw [this]
  rw [key 10 0 rfl]
  exact hd.2
/-- A text without '-' is no date. -/
theorem no_date {t : ByteArray} (hm : ∀ i : Nat, i < t.size → bt t i ≠ 45) : dateI t 0 = false := by
  unfold dateI
  by_cases h10 : 0 + 10 ≤ t.size
  · have h4 : dOk t 0 4 = false := by
      unfold dOk
      rw [if_pos (Or.inl rfl)]
      have := hm 4 (by omega)
      simpa using this
    simp only [dFrom, h4, Bool.false_and, Bool.and_false]
  · simp [h10]
theorem Piece.num {s t : ByteArray} {p : Nat} (h : Piece s t p) (hp : p < s.size) (h4 : clsI (bt s p) = 4) (hz : p + t.size = numQ s p) : dateI t 0 = false ∧ numQ t 0 = t.size := by
  have hle := h.le
  have hd4 : gD (clsI (bt s p)) = true := by rw [h4]; rfl
  obtain ⟨r1, r2⟩ := runI_gt (G := gD) hp hd4
  obtain ⟨a, b, c, d⟩ := runI_spec s gD (p := p) (by omega)
  obtain ⟨r, hr⟩ : ∃ r, r = runI s gD p := ⟨_, rfl⟩
  have hz2 : p + t.size = if (r + 1 < s.size ∧ bt s r = 46) ∧ clsI (bt s ((r + 1 : Nat) : Int)) = 4 then runI s gD (r + 1) else r := by rw [hz]; unfold numQ; rw [← hr]
  rw [← hr] at r1 r2 a b c d
  have dig : ∀ j : Nat, gD (clsI (bt s j)) = true → bt s j ≠ 45 := fun j hj e => by rw [e] at hj; exact absurd hj (by decide)
  by_cases e : (r + 1 < s.size ∧ bt s r = 46) ∧ clsI (bt s ((r + 1 : Nat) : Int)) = 4
  · rw [if_pos e] at hz2
    obtain ⟨⟨e1, e2⟩, e3⟩ := e
    obtain ⟨q1, q2, q3, q4⟩ := runI_spec s gD (p := r + 1) (by omega)
    have q5 := (runI_gt (G := gD) e1 (by rw [e3]; rfl)).1
    rw [← hz2] at q1 q2 q3 q5
    have hr1 : runI t gD 0 = r - p := by
      refine runI_uniq t gD (Nat.zero_le _) (by omega) (fun j _ hj => ?_) (fun hl => ?_)
      · rw [h.at_ j (by omega)]; exact c _ (by omega) (by omega)
      · rw [h.at_ _ hl, show p + (r - p) = r by omega, e2]; rfl
    have hr2 : runI t gD (r - p + 1) = t.size := by
      refine runI_uniq t gD (by omega) (Nat.le_refl _) (fun j h1 hj => ?_) (fun x => absurd x (Nat.lt_irrefl _))
      rw [h.at_ j hj]; exact q3 _ (by omega) (by omega)
    refine ⟨no_date fun i hi => ?_, ?_⟩
    · rw [h.at_ i hi]
      by_cases x : p + i < r
      · exact dig _ (c _ (by omega) x)
      · by_cases y : p + i = r
        · rw [y, e2]; decide
        · exact dig _ (q3 _ (by omega) (by omega))
    · unfold numQ
      rw [hr1, if_pos, hr2]
      refine ⟨⟨by omega, ?_⟩, ?_⟩
      · rw [h.at_ _ (by omega), show p + (r - p) = r by omega, e2]
      · rw [h.at_ _ (by omega), show p + (r - p + 1) = r + 1 by omega, e3]
  · rw [if_neg e] at hz2
    have hr1 : runI t gD 0 = t.size := by
      refine runI_uniq t gD (Nat.zero_le _) (Nat.le_refl _) (fun j _ hj => ?_) (fun x => absurd x (Nat.lt_irrefl _))
      rw [h.at_ j hj]; exact c _ (by omega) (by omega)
    refine ⟨no_date fun i hi => ?_, ?_⟩
    · rw [h.at_ i hi]; exact dig _ (c _ (by omega) (by omega))
    · unfold numQ
      rw [hr1, if_neg (fun x => by have := x.1.1; omega)]
theorem find_sub {s t : ByteArray} {p : Nat} : ∀ (l : List ByteArray), findM s p l = some t → (∀ m ∈ l, begB t 0 m = true → begB s p m = true) → begB t 0 t = true → findM t 0 l = some t
  | [], h, _, _ => by simp [findM] at h
  | m :: l, h, hs, ht => by
    simp only [findM] at h ⊢
    by_cases e : begB s p m = true
    · rw [if_pos e] at h
      cases h
      rw [if_pos ht]
    · rw [if_neg e] at h
      rw [if_neg (fun x => e (hs m List.mem_cons_self x))]
      exact find_sub l h (fun m hm => hs m (List.mem_cons_of_mem _ hm)) ht
theorem ext_all (t : ByteArray) : (t.extract 0 t.size).data.toList = t.data.toList := by
  simp
theorem Piece.mark {s t : ByteArray} {p : Nat} (h : Piece s t p) (hm : findM s p marksL = some t) : findM t 0 marksL = some t := by
  have hb := (findM_mem hm).2
  refine find_sub marksL hm (fun m _ hx => ?_) ?_
  · unfold begB Lib.hasPrefix at hx hb ⊢
    rw [ext_all] at hx
    exact List.isPrefixOf_iff_prefix.2 ((List.isPrefixOf_iff_prefix.1 hx).trans (List.isPrefixOf_iff_prefix.1 hb))
  · unfold begB Lib.hasPrefix
    rw [ext_all]
    exact List.isPrefixOf_iff_prefix.2 (List.prefix_refl _)
/-- A token as it stands. -/
def rawT (t : Tk) : ByteArray := if t.f0 = 5 then ((⟨#[34]⟩ : ByteArray) ++ t.f1) ++ (⟨#[34]⟩ : ByteArray) else t.f1
/-- A token that its own text tells again. -/
def SelfT (t : Tk) : Prop := if t.f0 = 5 then t.f1.size ≤ 65534 ∧ Lib.containsAny t.f1.data.toList [34, 10] = false else scanP t.f1 = ([⟨t.f0, t.f1, 0⟩], [], 0, (t.f1.size : Int))
/-- What a step does. -/
inductive StepK (s : ByteArray) (p : Nat) (T : List Tk) (R : List ByteArray) : Rs → Prop
  | blank : clsI (bt s p) = 1 → StepK s p T R (true, p + 1, T, R, 0, 0)
  | rem : bt s p = 35 → StepK s p T R (true, runB s nB (p + 1), T, R ++ [s.extract (p + 1) (runB s nB (p + 1))], 0, 0)
  | tok (t : Tk) (q : Nat) : p < q → q ≤ s.size → t.f2 = p → rawT t = s.extract p q → SelfT t → StepK s p T R (true, q, T ++ [t], R, 0, 0)
theorem put_step {s : ByteArray} {p q : Nat} {k : Int} {T : List Tk} {R : List ByteArray} (hpq : p < q) (hq : q ≤ s.size) (hk : k ≠ 5) (hself : scanP (s.extract p q) = ([⟨k, s.extract p q, 0⟩], [], 0, ((s.extract p q).size : Int))) (hr : (putP s p k q T R).1 = true) : StepK s p T R (putP s p k q T R) := by
  unfold putP at hr ⊢
  split at hr
  · cases hr
  · next c =>
    rw [if_neg c]
    refine .tok ⟨k, s.extract p q, p⟩ q hpq hq rfl ?_ ?_
    · unfold rawT; rw [if_neg hk]
    · unfold SelfT; rw [if_neg hk]; exact hself
theorem ba_ext2 {a b : ByteArray} (h : a.data.toList = b.data.toList) : a = b := ba_ext h
theorem quo_raw {s : ByteArray} {p q : Nat} (h1 : p + 1 ≤ q) (h2 : q < s.size) (hp : bt s p = 34) (hq : bt s q = 34) : ((⟨#[34]⟩ : ByteArray) ++ s.extract (p + 1) q) ++ (⟨#[34]⟩ : ByteArray) = s.extract p (q + 1) := by
  apply ba_ext
  have hl := Lib.size_eq s
  have hlp : p < s.data.toList.length := by omega
  have hlq : q < s.data.toList.length := by omega
  have byte : ∀ j (hj : j < s.data.toList.length), bt s j = 34 → s.data.toList[j] = 34 := fun j hj e => by
    rw [bt_list, List.getD_eq_getElem?_getD, List.getElem?_eq_getElem hj] at e
    exact UInt8.toNat.inj (by simp at e; simp; omega)
  have ep := byte p hlp hp
  have eq := byte q hlq hq
  simp only [ByteArray.data_append, Array.toList_append, ByteArray.data_extract, Array.toList_extract, List.extract_eq_take_drop]
  rw [List.drop_eq_getElem_cons hlp, ep, show q + 1 - p = (q - (p + 1)) + 1 + 1 by omega, List.take_succ_cons]
  rw [List.take_succ_eq_append_getElem (by simp; omega)]
  simp only [List.getElem_drop]
  have : s.data.toList[p + 1 + (q - (p + 1))]'(by omega) = 34 := by
    have e : p + 1 + (q - (p + 1)) = q := by omega
    simp only [e]
    exact eq
  rw [this]
  rfl
theorem step_k {s : ByteArray} {p : Nat} {T : List Tk} {R : List ByteArray} (hp : p < s.size) (hs : s.size ≤ 65536) (hr : (nexP s p T R).1 = true) : StepK s p T R (nexP s p T R) := by
  unfold nexP at hr ⊢
  by_cases c1 : clsI (bt s p) = 1
  · rw [if_pos c1]; exact .blank c1
  rw [if_neg c1] at hr ⊢
  have wd : ∀ (k : Int) (G : Int → Bool), k ≠ 5 → G (clsI (bt s p)) = true → (wordP s p k G T R).1 = true → (∀ t : ByteArray, bt t 0 = bt s p → nexP t 0 [] [] = wordP t 0 k G [] []) → StepK s p T R (wordP s p k G T R) := fun k G hk hg hr hn => by
    have hgt := runI_gt (G := G) hp hg
    unfold wordP at hr ⊢
    split at hr
    · cases hr
    · next c =>
      rw [if_neg c]
      obtain ⟨hpc, hz⟩ := piece s p (runI s G p) (by omega) hgt.2
      refine put_step hgt.1 hgt.2 hk ?_ hr
      refine scan_one _ k (by omega) (by omega) ?_
      rw [hn _ (hpc.zero (by omega))]
      exact hpc.word (by omega) (by omega) (by omega)
  by_cases c2 : clsI (bt s p) = 2
  · rw [if_pos c2] at hr ⊢
    exact wd 1 gN (by decide) (by rw [c2]; rfl) hr (fun t e => by unfold nexP; rw [show bt t ((0 : Nat) : Int) = bt s p from e, if_neg c1, if_pos c2])
  rw [if_neg c2] at hr ⊢
  by_cases c3 : clsI (bt s p) = 3
  · rw [if_pos c3] at hr ⊢
    exact wd 2 gV (by decide) (by rw [c3]; rfl) hr (fun t e => by unfold nexP; rw [show bt t ((0 : Nat) : Int) = bt s p from e, if_neg c1, if_neg c2, if_pos c3])
  rw [if_neg c3] at hr ⊢
  by_cases c4 : clsI (bt s p) = 4
  · rw [if_pos c4] at hr ⊢
    have hn : ∀ t : ByteArray, bt t 0 = bt s p → nexP t 0 [] [] = numP t 0 [] [] := fun t e => by unfold nexP; rw [show bt t ((0 : Nat) : Int) = bt s p from e, if_neg c1, if_neg c2, if_neg c3, if_pos c4]
    unfold numP at hr ⊢
    by_cases cd : dateI s p = true
    · rw [if_pos cd] at hr ⊢
      have h10 : p + 10 ≤ s.size := by unfold dateI at cd; simp at cd; exact cd.1
      obtain ⟨hpc, hz⟩ := piece s p (p + 10) (by omega) h10
      refine put_step (by omega) h10 (by decide) ?_ hr
      refine scan_one _ 4 (by omega) (by omega) ?_
      rw [hn _ (hpc.zero (by omega))]
      unfold numP
      rw [if_pos (hpc.date cd (by omega)), show 0 + 10 = (s.extract p (p + 10)).size by omega, put_end]
      rfl
    · rw [if_neg cd] at hr ⊢
      have hq := numQ_le s (p := p) (by omega)
      have hgt : p < numQ s p := by
        have h1 := runI_gt (G := gD) hp (by rw [c4]; rfl)
        unfold numQ
        split
        · have := runI_le s gD (p := runI s gD p + 1) (by omega)
          omega
        · exact h1.1
      obtain ⟨hpc, hz⟩ := piece s p (numQ s p) (by omega) hq.2
      refine put_step hgt hq.2 (by decide) ?_ hr
      refine scan_one _ 3 (by omega) (by omega) ?_
      rw [hn _ (hpc.zero (by omega))]
      obtain ⟨n1, n2⟩ := hpc.num hp c4 (by omega)
      unfold numP
      rw [if_neg (by rw [n1]; simp), n2, put_end]
      rfl
  rw [if_neg c4] at hr ⊢
  by_cases c34 : bt s p = 34
  · rw [if_pos c34] at hr ⊢
    unfold quoP at hr ⊢
    split at hr
    · next c =>
      rw [if_pos c]
      obtain ⟨a, b, cc, d⟩ := runB_spec s qB (p := p + 1) (by omega)
      obtain ⟨q, hq⟩ : ∃ q, q = runB s qB (p + 1) := ⟨_, rfl⟩
      rw [← hq] at a b cc d c ⊢
      have d1 := d c.1
      have e34 : bt s q = 34 := by
        unfold qB at d1
        simp only [Bool.and_eq_false_iff] at d1
        rcases d1 with d1 | d1
        · simpa using d1
        · exact absurd (by simpa using d1) c.2
      have hz : (s.extract (p + 1) q).size = q - (p + 1) := by simp; omega
      refine .tok ⟨5, s.extract (p + 1) q, p⟩ (q + 1) (by omega) (by omega) rfl ?_ ?_
      · unfold rawT
        rw [if_pos rfl]
        exact quo_raw a c.1 c34 e34
      · unfold SelfT
        rw [if_pos rfl]
        refine ⟨by simp only; omega, ?_⟩
        unfold Lib.containsAny
        rw [Lib.indexAny_none]
        · rfl
        · intro j x hj hx
          have hlt : j < (s.extract (p + 1) q).size := by rw [Lib.size_eq]; exact hj
          have e1 := Lib.data_getElem? (s.extract (p + 1) q) j hlt
          rw [hx] at e1
          have e2 := (piece s (p + 1) q a (by omega)).1.at_ j hlt
          rw [bt_get _ j hlt, ← Option.some.inj e1] at e2
          have e3 := cc (p + 1 + j) (by omega) (by omega)
          rw [← e2, qB_ok] at e3
          simpa [qN] using e3
    · cases hr
  rw [if_neg c34] at hr ⊢
  by_cases c35 : bt s p = 35
  · rw [if_pos c35] at hr ⊢
    unfold remP
    exact .rem c35
  rw [if_neg c35] at hr ⊢
  have hn : ∀ t : ByteArray, bt t 0 = bt s p → nexP t 0 [] [] = marP t 0 [] [] := fun t e => by unfold nexP; rw [show bt t ((0 : Nat) : Int) = bt s p from e, if_neg c1, if_neg c2, if_neg c3, if_neg c4, if_neg c34, if_neg c35]
  unfold marP at hr ⊢
  rcases hm : findM s p marksL with _ | m
  · rw [hm] at hr; cases hr
  · obtain ⟨hm1, hm2⟩ := findM_mem hm
    have h3 := marks_sz m hm1
    have h4 := begB_le (by omega) hm2
    have hx : m = s.extract p (p + m.size) := beg_ext (by omega) hm2
    obtain ⟨hpc, hz⟩ := piece s p (p + m.size) (by omega) h4
    rw [← hx] at hpc
    refine .tok ⟨6, m, p⟩ (p + m.size) (by omega) h4 rfl ?_ ?_
    · unfold rawT; rw [if_neg (show ¬ (6 : Int) = 5 by decide)]; exact hx
    · unfold SelfT
      rw [if_neg (show ¬ (6 : Int) = 5 by decide)]
      show scanP m = ([⟨6, m, 0⟩], [], 0, (m.size : Int))
      refine scan_one m 6 (by omega) (by omega) ?_
      rw [hn _ (hpc.zero (by omega))]
      unfold marP
      rw [hpc.mark hm]
      simp
end Go.Proofs.Ytmjneidcdaapdaa.P
