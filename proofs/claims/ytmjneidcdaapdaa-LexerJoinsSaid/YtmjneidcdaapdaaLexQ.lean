/- The lexer, plainly: the document's walk tells what the scanner tells. -/
import Derived.Test.YtmjneidcdaapdaaPx5
import Derived.Test.YtmjneidcdaapdaaLexT
namespace Go.Proofs.Ytmjneidcdaapdaa.P
open Go.RowKit Go.Proofs.YtmjneidcdaapdaaW.PrintWords Go.Proofs.YtmjneidcdaapdaaW.PrintLast
set_option linter.unusedVariables false
set_option linter.unusedSimpArgs false

theorem wr64 {x : Int} (h0 : -9223372036854775808 ≤ x) (h1 : x ≤ 9223372036854775807) : wrap64 x = x := by unfold wrap64; omega
theorem sc64 (n : Nat) (h : n ≤ 1000000) : wrap64 ((n : Int) + 1) = ((n + 1 : Nat) : Int) := (wr64 (by omega) (by omega)).trans (by omega)
/-! #### the sorts of bytes -/
theorem cls_key {c k : Int} (h : ((c = 9 ∨ c = 10) ∨ (c = 13 ∨ c = 32)) ∧ k = 1 ∨ (97 ≤ c ∧ c ≤ 122) ∧ k = 2 ∨ (65 ≤ c ∧ c ≤ 90) ∧ k = 3 ∨ (48 ≤ c ∧ c ≤ 57) ∧ k = 4 ∨ c = 95 ∧ k = 5 ∨
    (¬ ((c = 9 ∨ c = 10) ∨ (c = 13 ∨ c = 32)) ∧ ¬ (97 ≤ c ∧ c ≤ 122) ∧ ¬ (65 ≤ c ∧ c ≤ 90) ∧ ¬ (48 ≤ c ∧ c ≤ 57) ∧ ¬ c = 95) ∧ k = 0) : clsI c = k := by
  unfold clsI
  rcases h with ⟨h, rfl⟩ | ⟨h, rfl⟩ | ⟨h, rfl⟩ | ⟨h, rfl⟩ | ⟨h, rfl⟩ | ⟨⟨h1, h2, h3, h4, h5⟩, rfl⟩
  · rw [if_pos h]
  · rw [if_neg (by omega), if_pos h]
  · rw [if_neg (by omega), if_neg (by omega), if_pos h]
  · rw [if_neg (by omega), if_neg (by omega), if_neg (by omega), if_pos h]
  · rw [if_neg (by omega), if_neg (by omega), if_neg (by omega), if_neg (by omega), if_pos h]
  · rw [if_neg h1, if_neg h2, if_neg h3, if_neg h4, if_neg h5]
theorem cls_cases (c : Int) : ∃ k, clsI c = k ∧ (((c = 9 ∨ c = 10) ∨ (c = 13 ∨ c = 32)) ∧ k = 1 ∨ (97 ≤ c ∧ c ≤ 122) ∧ k = 2 ∨ (65 ≤ c ∧ c ≤ 90) ∧ k = 3 ∨ (48 ≤ c ∧ c ≤ 57) ∧ k = 4 ∨ c = 95 ∧ k = 5 ∨
    (¬ ((c = 9 ∨ c = 10) ∨ (c = 13 ∨ c = 32)) ∧ ¬ (97 ≤ c ∧ c ≤ 122) ∧ ¬ (65 ≤ c ∧ c ≤ 90) ∧ ¬ (48 ≤ c ∧ c ≤ 57) ∧ ¬ c = 95) ∧ k = 0) := by
  have h : (((c = 9 ∨ c = 10) ∨ (c = 13 ∨ c = 32)) ∨ (97 ≤ c ∧ c ≤ 122) ∨ (65 ≤ c ∧ c ≤ 90) ∨ (48 ≤ c ∧ c ≤ 57) ∨ c = 95 ∨ (¬ ((c = 9 ∨ c = 10) ∨ (c = 13 ∨ c = 32)) ∧ ¬ (97 ≤ c ∧ c ≤ 122) ∧ ¬ (65 ≤ c ∧ c ≤ 90) ∧ ¬ (48 ≤ c ∧ c ≤ 57) ∧ ¬ c = 95)) := by omega
  rcases h with h | h | h | h | h | h
  · exact ⟨1, cls_key (.inl ⟨h, rfl⟩), .inl ⟨h, rfl⟩⟩
  · exact ⟨2, cls_key (.inr (.inl ⟨h, rfl⟩)), .inr (.inl ⟨h, rfl⟩)⟩
  · exact ⟨3, cls_key (.inr (.inr (.inl ⟨h, rfl⟩))), .inr (.inr (.inl ⟨h, rfl⟩))⟩
  · exact ⟨4, cls_key (.inr (.inr (.inr (.inl ⟨h, rfl⟩)))), .inr (.inr (.inr (.inl ⟨h, rfl⟩)))⟩
  · exact ⟨5, cls_key (.inr (.inr (.inr (.inr (.inl ⟨h, rfl⟩))))), .inr (.inr (.inr (.inr (.inl ⟨h, rfl⟩))))⟩
  · exact ⟨0, cls_key (.inr (.inr (.inr (.inr (.inr ⟨h, rfl⟩))))), .inr (.inr (.inr (.inr (.inr ⟨h, rfl⟩))))⟩
theorem beq_dec {a b : Int} {p : Prop} [Decidable p] (h : a = b ↔ p) : (a == b) = decide p := by
  by_cases e : a = b
  · rw [decide_eq_true (h.1 e), e]; simp
  · rw [decide_eq_false (fun q => e (h.2 q))]; simpa using e
theorem digit_f (c : Int) : lexpriorref04_digit.f c = some (clsI c == 4) := by
  obtain ⟨k, hk, h⟩ := cls_cases c
  rw [hk, beq_dec (p := 48 ≤ c ∧ c ≤ 57) (by omega)]
  unfold lexpriorref04_digit.f
  by_cases a : 48 ≤ c
  · rw [if_pos (by omega)]; simp [a]
  · rw [if_neg (by omega)]; simp [a]
theorem small_f (c : Int) : lexpriorref04_small.f c = some (clsI c == 2) := by
  obtain ⟨k, hk, h⟩ := cls_cases c
  rw [hk, beq_dec (p := 97 ≤ c ∧ c ≤ 122) (by omega)]
  unfold lexpriorref04_small.f
  by_cases a : 97 ≤ c
  · rw [if_pos (by omega)]; simp [a]
  · rw [if_neg (by omega)]; simp [a]
theorem capital_f (c : Int) : lexpriorref04_capital.f c = some (clsI c == 3) := by
  obtain ⟨k, hk, h⟩ := cls_cases c
  rw [hk, beq_dec (p := 65 ≤ c ∧ c ≤ 90) (by omega)]
  unfold lexpriorref04_capital.f
  by_cases a : 65 ≤ c
  · rw [if_pos (by omega)]; simp [a]
  · rw [if_neg (by omega)]; simp [a]
theorem line_f (c : Int) : (c == 95) = (clsI c == 5) := by
  obtain ⟨k, hk, h⟩ := cls_cases c
  rw [hk]
  have h5 : k = 5 ↔ c = 95 := by omega
  by_cases e : c = 95
  · rw [e, h5.2 e]; rfl
  · have e2 : ¬ k = 5 := fun q => e (h5.1 q)
    rw [beq_eq_false_iff_ne.2 e, beq_eq_false_iff_ne.2 e2]
theorem blank_f (c : Int) : lexpriorref04_blank.f c = some (clsI c == 1) := by
  obtain ⟨k, hk, h⟩ := cls_cases c
  rw [hk, beq_dec (p := (c = 9 ∨ c = 10) ∨ (c = 13 ∨ c = 32)) (by omega)]
  unfold lexpriorref04_blank.f
  by_cases a : c = 9
  · simp [a]
  by_cases b : c = 10
  · simp [b]
  by_cases d : c = 13
  · simp [d]
  simp [a, b, d]
  rfl
theorem word_f (c : Int) : lexpriorref04_word.f c = some (gV (clsI c)) := by
  unfold lexpriorref04_word.f
  rw [small_f, capital_f, digit_f, line_f]
  unfold gV gN
  cases clsI c == 2 <;> cases clsI c == 3 <;> cases clsI c == 4 <;> cases clsI c == 5 <;> rfl
/-! #### dates -/
theorem ite_and (a b : Int) (r : Bool) : (if a = b then some r else some false) = some (a == b && r) := by
  by_cases h : a = b
  · rw [if_pos h, h]; simp
  · rw [if_neg h]; simp [h]
theorem date_l0 (s : ByteArray) (p : Nat) (h10 : p + 10 ≤ s.size) (hs : s.size ≤ 65536) (n : Nat) : ∀ (k i : Nat), i + n = 10 → n < k → lexpriorref04_date.l0 k s p i = some (dFrom s p n i) := by
  induction n with
  | zero =>
    intro k i hi hk
    obtain ⟨k, rfl⟩ : ∃ m, k = m + 1 := ⟨k - 1, by omega⟩
    simp only [lexpriorref04_date.l0, dFrom]
    rw [if_neg (by omega)]
  | succ n IH =>
    intro k i hi hk
    obtain ⟨k, rfl⟩ : ∃ m, k = m + 1 := ⟨k - 1, by omega⟩
    have ih := IH k (i + 1) (by omega) (by omega)
    have e1 : wrap64 ((p : Int) + (i : Int)) = ((p + i : Nat) : Int) := (wr64 (by omega) (by omega)).trans (by omega)
    have e2 := sc64 i (by omega)
    have b1 : (0 : Int) ≤ ((p + i : Nat) : Int) := by omega
    have b2 : ((p + i : Nat) : Int) < (s.size : Int) := by omega
    have b3 : (i : Int) < 10 := by omega
    simp only [lexpriorref04_date.l0, dFrom, dOk, e1, e2, ih, digit_f, Option.bind_some]
    rw [if_pos b3]
    by_cases h4 : i = 4
    · rw [if_pos (show (i : Int) = 4 by omega), if_pos b1, if_pos b2, if_pos (Or.inl h4)]
      exact ite_and _ _ _
    · rw [if_neg (show ¬ (i : Int) = 4 by omega)]
      by_cases h7 : i = 7
      · rw [if_pos (show (i : Int) = 7 by omega), if_pos b1, if_pos b2, if_pos (Or.inr h7)]
        exact ite_and _ _ _
      · rw [if_neg (show ¬ (i : Int) = 7 by omega), if_pos b1, if_pos b2, if_neg (show ¬ (i = 4 ∨ i = 7) by omega)]
        cases clsI (bt s ((p + i : Nat) : Int)) == 4 <;> rfl
theorem date_f (s : ByteArray) (p : Nat) (hp : p ≤ s.size) (hs : s.size ≤ 65536) (k : Nat) (hk : 11 ≤ k) : lexpriorref04_date.f k s p = some (dateI s p) := by
  unfold lexpriorref04_date.f dateI
  have e1 : wrap64 ((p : Int) + 10) = ((p + 10 : Nat) : Int) := (wr64 (by omega) (by omega)).trans (by omega)
  rw [e1]
  by_cases h : p + 10 ≤ s.size
  · rw [if_neg (by omega)]
    have := date_l0 s p h hs 10 k 0 rfl (by omega)
    simp [h]
    simpa using this
  · rw [if_pos (by omega)]
    simp [h]
/-! #### one token -/
abbrev On := Int × Int × Int × Int
def endP (s : ByteArray) (p : Nat) (kd : Int) (q : Nat) : On :=
  if (kd = 1 ∨ kd = 2) ∧ 32 < q - p then (0, 0, 5, p) else if q < s.size ∧ gV (clsI (bt s q)) = true then (0, 0, 41, q) else (kd, q, 0, 0)
theorem j9_f (s : ByteArray) (p q : Nat) (kd : Int) (b : Bool) (k : Nat) (hk : 1 ≤ k) : lexpriorref04_one.j9 k s p q kd b = some (if b = true then ((0, 0, 5, (p : Int)) : On) else if q < s.size ∧ gV (clsI (bt s q)) = true then (0, 0, 41, (q : Int)) else (kd, (q : Int), 0, 0)) := by
  obtain ⟨k, rfl⟩ : ∃ m, k = m + 1 := ⟨k - 1, by omega⟩
  simp only [lexpriorref04_one.j9, word_f, Option.bind_some]
  cases b with
  | true => simp
  | false =>
    simp only [Bool.false_eq_true, if_false]
    by_cases h : q < s.size
    · rw [if_pos (by omega), if_pos (by omega)]
      by_cases g : gV (clsI (bt s q)) = true
      · rw [if_pos g, if_pos ⟨h, g⟩]
      · rw [if_neg g, if_neg (fun x => g x.2)]
    · rw [if_neg (by omega), if_neg (fun x => h x.1)]
theorem j8_f (s : ByteArray) (p q : Nat) (kd : Int) (hpq : p ≤ q) (hq : q ≤ 100000) (k : Nat) (hk : 2 ≤ k) : lexpriorref04_one.j8 k s p q kd = some (endP s p kd q) := by
  obtain ⟨k, rfl⟩ : ∃ m, k = m + 1 := ⟨k - 1, by omega⟩
  have e1 : wrap64 ((q : Int) - (p : Int)) = ((q - p : Nat) : Int) := (wr64 (by omega) (by omega)).trans (by omega)
  simp only [lexpriorref04_one.j8, e1, j9_f s p q kd _ k (by omega)]
  have e2 : decide (((q - p : Nat) : Int) > 32) = decide (32 < q - p) := by rw [decide_eq_decide]; omega
  rw [e2]
  unfold endP
  by_cases h1 : kd = 1
  · rw [if_pos h1]
    by_cases g : 32 < q - p
    · simp [h1, g]
    · simp [h1, g]
  · rw [if_neg h1]
    by_cases h2 : kd = 2
    · rw [if_pos h2]
      by_cases g : 32 < q - p
      · simp [h2, g]
      · simp [h2, g]
    · rw [if_neg h2]
      simp [h1, h2]
theorem runI_stop {s : ByteArray} {G : Int → Bool} {p : Nat} (h : G (clsI (bt s p)) = false) : runI s G p = p := runI_no h
/-- A loop over good bytes. -/
theorem l2_f (s : ByteArray) (p : Nat) (kd : Int) (hs : s.size ≤ 65536) (d : Nat) : ∀ (k q : Nat), p ≤ q → q ≤ s.size → s.size - q = d → d + 3 ≤ k → lexpriorref04_one.l2 k s p q kd = some (endP s p kd (runI s gN q)) := by
  induction d with
  | zero =>
    intro k q h1 h2 hd hk
    obtain ⟨k, rfl⟩ : ∃ m, k = m + 1 := ⟨k - 1, by omega⟩
    simp only [lexpriorref04_one.l2]
    rw [if_neg (by omega), runI_end (by omega)]
    exact j8_f s p q kd h1 (by omega) k (by omega)
  | succ d IH =>
    intro k q h1 h2 hd hk
    obtain ⟨k, rfl⟩ : ∃ m, k = m + 1 := ⟨k - 1, by omega⟩
    have ih := IH k (q + 1) (by omega) (by omega) (by omega) (by omega)
    simp only [lexpriorref04_one.l2, small_f, digit_f, Option.bind_some, sc64 q (by omega), ih, j8_f s p q kd h1 (by omega) k (by omega)]
    rw [if_pos (by omega), if_pos (by omega)]
    have hl : (bt s q = 95) ↔ clsI (bt s q) == 5 := by rw [← line_f]; simp
    rcases hg : gN (clsI (bt s q)) with _ | _
    · rw [runI_no hg]
      unfold gN at hg
      simp only [Bool.or_eq_false_iff] at hg
      rw [if_neg (by rw [hg.1]; simp), if_neg (by rw [hg.2.1]; simp), if_neg (by rw [hl, hg.2.2]; simp)]
    · rw [runI_yes (by omega) hg]
      unfold gN at hg
      cases a : clsI (bt s q) == 2
      · cases b : clsI (bt s q) == 4
        · rw [a, b] at hg
          simp only [Bool.false_or] at hg
          rw [if_neg (by simp), if_neg (by simp), if_pos (hl.2 hg)]
        · simp
      · simp
theorem l3_f (s : ByteArray) (p : Nat) (kd : Int) (hs : s.size ≤ 65536) (d : Nat) : ∀ (k q : Nat), p ≤ q → q ≤ s.size → s.size - q = d → d + 3 ≤ k → lexpriorref04_one.l3 k s p q kd = some (endP s p kd (runI s gV q)) := by
  induction d with
  | zero =>
    intro k q h1 h2 hd hk
    obtain ⟨k, rfl⟩ : ∃ m, k = m + 1 := ⟨k - 1, by omega⟩
    simp only [lexpriorref04_one.l3]
    rw [if_neg (by omega), runI_end (by omega)]
    exact j8_f s p q kd h1 (by omega) k (by omega)
  | succ d IH =>
    intro k q h1 h2 hd hk
    obtain ⟨k, rfl⟩ : ∃ m, k = m + 1 := ⟨k - 1, by omega⟩
    have ih := IH k (q + 1) (by omega) (by omega) (by omega) (by omega)
    simp only [lexpriorref04_one.l3, word_f, Option.bind_some, sc64 q (by omega), ih, j8_f s p q kd h1 (by omega) k (by omega)]
    rw [if_pos (by omega), if_pos (by omega)]
    rcases hg : gV (clsI (bt s q)) with _ | _
    · rw [runI_no hg, if_neg (by simp)]
    · rw [runI_yes (by omega) hg, if_pos rfl]
theorem l1_f (s : ByteArray) (p : Nat) (kd : Int) (hs : s.size ≤ 65536) (d : Nat) : ∀ (k q : Nat), p ≤ q → q ≤ s.size → s.size - q = d → d + 3 ≤ k → lexpriorref04_one.l1 k s p q kd = some (endP s p kd (runI s gD q)) := by
  induction d with
  | zero =>
    intro k q h1 h2 hd hk
    obtain ⟨k, rfl⟩ : ∃ m, k = m + 1 := ⟨k - 1, by omega⟩
    simp only [lexpriorref04_one.l1]
    rw [if_neg (by omega), runI_end (by omega)]
    exact j8_f s p q kd h1 (by omega) k (by omega)
  | succ d IH =>
    intro k q h1 h2 hd hk
    obtain ⟨k, rfl⟩ : ∃ m, k = m + 1 := ⟨k - 1, by omega⟩
    have ih := IH k (q + 1) (by omega) (by omega) (by omega) (by omega)
    simp only [lexpriorref04_one.l1, digit_f, Option.bind_some, sc64 q (by omega), ih, j8_f s p q kd h1 (by omega) k (by omega)]
    rw [if_pos (by omega), if_pos (by omega)]
    rcases hg : gD (clsI (bt s q)) with _ | _
    · rw [runI_no hg]; unfold gD at hg; rw [if_neg (by rw [hg]; simp)]
    · rw [runI_yes (by omega) hg]; unfold gD at hg; rw [if_pos hg]
/-- Behind a run of digits. -/
def numQ' (s : ByteArray) (q : Nat) : Nat := if (q + 1 < s.size ∧ bt s q = 46) ∧ clsI (bt s ((q + 1 : Nat) : Int)) = 4 then runI s gD (q + 1) else q
theorem j1_f (s : ByteArray) (p q : Nat) (kd : Int) (hs : s.size ≤ 65536) (h1 : p ≤ q) (h2 : q ≤ s.size) (k : Nat) (hk : s.size + 5 ≤ k) : lexpriorref04_one.j1 k s p q kd = some (endP s p kd (numQ' s q)) := by
  obtain ⟨k, rfl⟩ : ∃ m, k = m + 2 := ⟨k - 2, by omega⟩
  have e8 := j8_f s p q kd h1 (by omega) k (by omega)
  simp only [lexpriorref04_one.j1, lexpriorref04_one.j2, sc64 q (by omega), digit_f, Option.bind_some, e8]
  unfold numQ'
  by_cases hl : q + 1 < s.size
  · have e1 := l1_f s p kd hs (s.size - (q + 1)) k (q + 1) (by omega) (by omega) rfl (by omega)
    have b1 : (0 : Int) ≤ ((q + 1 : Nat) : Int) := by omega
    have b2 : ((q + 1 : Nat) : Int) < (s.size : Int) := by omega
    have b3 : (0 : Int) ≤ (q : Int) := by omega
    have b4 : (q : Int) < (s.size : Int) := by omega
    rw [if_pos b2, if_pos b3, if_pos b4, if_pos b1, e1]
    by_cases h46 : bt s q = 46
    · rw [if_pos h46]
      by_cases h4 : clsI (bt s ((q + 1 : Nat) : Int)) = 4
      · rw [if_pos (by rw [h4]; rfl), if_pos ⟨⟨hl, h46⟩, h4⟩]
      · rw [if_neg (by simpa using h4), if_neg (fun x => h4 x.2)]
    · rw [if_neg h46, if_neg (fun x : (q + 1 < s.size ∧ bt s q = 46) ∧ clsI (bt s ((q + 1 : Nat) : Int)) = 4 => h46 x.1.2)]
      simp
  · have b2 : ¬ ((q + 1 : Nat) : Int) < (s.size : Int) := by omega
    rw [if_neg b2, if_neg (fun x : (q + 1 < s.size ∧ bt s q = 46) ∧ clsI (bt s ((q + 1 : Nat) : Int)) = 4 => hl x.1.1)]
    simp
theorem l0_f (s : ByteArray) (p : Nat) (kd : Int) (hs : s.size ≤ 65536) (d : Nat) : ∀ (k q : Nat), p ≤ q → q ≤ s.size → s.size - q = d → d + s.size + 6 ≤ k → lexpriorref04_one.l0 k s p q kd = some (endP s p kd (numQ' s (runI s gD q))) := by
  induction d with
  | zero =>
    intro k q h1 h2 hd hk
    obtain ⟨k, rfl⟩ : ∃ m, k = m + 1 := ⟨k - 1, by omega⟩
    simp only [lexpriorref04_one.l0]
    rw [if_neg (by omega), runI_end (by omega)]
    exact j1_f s p q kd hs h1 h2 k (by omega)
  | succ d IH =>
    intro k q h1 h2 hd hk
    obtain ⟨k, rfl⟩ : ∃ m, k = m + 1 := ⟨k - 1, by omega⟩
    have ih := IH k (q + 1) (by omega) (by omega) (by omega) (by omega)
    simp only [lexpriorref04_one.l0, digit_f, Option.bind_some, sc64 q (by omega), ih, j1_f s p q kd hs h1 h2 k (by omega)]
    rw [if_pos (by omega), if_pos (by omega)]
    rcases hg : gD (clsI (bt s q)) with _ | _
    · rw [runI_no hg]; unfold gD at hg; rw [if_neg (by rw [hg]; simp)]
    · rw [runI_yes (by omega) hg]; unfold gD at hg; rw [if_pos hg]
def quoR (s : ByteArray) (p q : Nat) : On := if q < s.size ∧ bt s q ≠ 10 then (5, ((q + 1 : Nat) : Int), 0, 0) else (0, 0, 42, (p : Int))
theorem l4_f (s : ByteArray) (p : Nat) (hs : s.size ≤ 65536) (d : Nat) : ∀ (k q : Nat), q ≤ s.size → s.size - q = d → d + 1 ≤ k → lexpriorref04_one.l4 k s p q = some (quoR s p (runB s qB q)) := by
  induction d with
  | zero =>
    intro k q h2 hd hk
    obtain ⟨k, rfl⟩ : ∃ m, k = m + 1 := ⟨k - 1, by omega⟩
    simp only [lexpriorref04_one.l4]
    rw [if_neg (by omega), if_pos (by omega), runB_end (by omega)]
    unfold quoR
    rw [if_neg (fun x => by omega)]
  | succ d IH =>
    intro k q h2 hd hk
    obtain ⟨k, rfl⟩ : ∃ m, k = m + 1 := ⟨k - 1, by omega⟩
    have ih := IH k (q + 1) (by omega) (by omega) (by omega)
    have b1 : (q : Int) < (s.size : Int) := by omega
    have b2 : ¬ (q : Int) = (s.size : Int) := by omega
    simp only [lexpriorref04_one.l4, sc64 q (by omega), ih]
    rw [if_pos b1, if_pos (by omega), if_neg b2, if_neg b2]
    by_cases h34 : bt s q = 34
    · have hq : qB (bt s q) = false := by rw [h34]; rfl
      have h10 : ¬ bt s q = 10 := by rw [h34]; decide
      rw [if_pos h34, if_neg h10, runB_no hq]
      unfold quoR
      rw [if_pos ⟨by omega, h10⟩]
    · rw [if_neg h34]
      by_cases h10 : bt s q = 10
      · have hq : qB (bt s q) = false := by rw [h10]; rfl
        rw [if_pos h10, runB_no hq]
        unfold quoR
        rw [if_neg (fun x => x.2 h10)]
      · have hq : qB (bt s q) = true := by unfold qB; simp [h34, h10]
        rw [if_neg h10, runB_yes (by omega) hq]
theorem begins_f (s : ByteArray) (p : Nat) (m : ByteArray) (hp : p ≤ s.size) (hs : s.size ≤ 65536) (hm : m.size ≤ 2) : lexpriorref04_begins.f s p m = some (begB s p m) := by
  unfold lexpriorref04_begins.f begB Lib.hasPrefix
  have e1 : wrap64 ((p : Int) + (m.size : Int)) = ((p + m.size : Nat) : Int) := (wr64 (by omega) (by omega)).trans (by omega)
  rw [e1]
  have hl : (s.extract p s.size).data.toList = s.data.toList.drop p := by
    simp
    have := Lib.size_eq s
    rw [List.take_of_length_le (by first | (simp; done) | (simp; omega))]
  have hsz := Lib.size_eq s
  have hmz := Lib.size_eq m
  by_cases h : p + m.size ≤ s.size
  · rw [if_pos (by omega), if_pos (by omega), if_pos (by omega)]
    congr 1
    rw [hl, Lib.toList_data, Lib.toList_data]
    simp only [Int.toNat_natCast]
    have h2 : (s.extract p (p + m.size)).data.toList = (s.data.toList.drop p).take m.size := by simp
    rw [h2, Bool.eq_iff_iff, List.isPrefixOf_iff_prefix, List.prefix_iff_eq_take, beq_iff_eq, ← hmz]
    exact eq_comm
  · rw [if_neg (by omega)]
    congr 1
    symm
    rw [Bool.eq_false_iff]
    intro hh
    have := (List.isPrefixOf_iff_prefix.1 hh).length_le
    rw [hl] at this
    simp at this
    omega
def marR (s : ByteArray) (p : Nat) (l : List ByteArray) : On := match findM s p l with
  | some m => (6, ((p + m.size : Nat) : Int), 0, 0)
  | none => (0, 0, 41, (p : Int))
theorem marks_same : lexpriorref04_marks.f = some marksL := rfl
theorem l5_f (s : ByteArray) (p : Nat) (hp : p ≤ s.size) (hs : s.size ≤ 65536) (d : Nat) : ∀ (k j : Nat), j + d = 21 → d + 1 ≤ k → lexpriorref04_one.l5 k s p marksL j = some (marR s p (marksL.drop j)) := by
  induction d with
  | zero =>
    intro k j hj hk
    obtain ⟨k, rfl⟩ : ∃ m, k = m + 1 := ⟨k - 1, by omega⟩
    simp only [lexpriorref04_one.l5]
    rw [marks_len, if_neg (by omega), List.drop_of_length_le (by rw [marks_len]; omega)]
    rfl
  | succ d IH =>
    intro k j hj hk
    obtain ⟨k, rfl⟩ : ∃ m, k = m + 1 := ⟨k - 1, by omega⟩
    have ih := IH k (j + 1) (by omega) (by omega)
    have hjl : j < marksL.length := by rw [marks_len]; omega
    obtain ⟨m, hm⟩ : ∃ m, m = marksL[j]'hjl := ⟨_, rfl⟩
    have hrd : rdOf ByteArray.empty marksL (j : Int) = m := by
      rw [hm]; unfold rdOf; simp [List.getD_eq_getElem?_getD, List.getElem?_eq_getElem hjl]
    have hsz := marks_sz m (by rw [hm]; exact List.getElem_mem _)
    have hd : marksL.drop j = m :: marksL.drop (j + 1) := by rw [hm]; exact List.drop_eq_getElem_cons hjl
    have e1 : wrap64 ((p : Int) + (m.size : Int)) = ((p + m.size : Nat) : Int) := (wr64 (by omega) (by omega)).trans (by omega)
    simp only [lexpriorref04_one.l5, hrd, begins_f s p m hp hs hsz.2, Option.bind_some, e1, sc64 j (by omega), ih]
    rw [marks_len, if_pos (by omega), if_pos (by omega), hd]
    unfold marR
    simp only [findM]
    cases begB s p m <;> simp
/-- The document's answer at a place. -/
def oneP (s : ByteArray) (p : Nat) : On :=
  if dateI s p = true then endP s p 4 (p + 10) else if clsI (bt s p) = 4 then endP s p 3 (numQ' s (runI s gD p)) else if clsI (bt s p) = 2 then endP s p 1 (runI s gN p) else if clsI (bt s p) = 3 then endP s p 2 (runI s gV p) else
  if bt s p = 34 then quoR s p (runB s qB (p + 1)) else marR s p marksL
theorem one_f (s : ByteArray) (p : Nat) (hp : p < s.size) (hs : s.size ≤ 65536) (k : Nat) (hk : 200000 ≤ k) : lexpriorref04_one.f k s p = some (oneP s p) := by
  unfold lexpriorref04_one.f oneP
  have e1 : wrap64 ((p : Int) + 10) = ((p + 10 : Nat) : Int) := (wr64 (by omega) (by omega)).trans (by omega)
  rw [if_pos (by omega), if_pos (by omega), date_f s p (by omega) hs k (by omega), digit_f, small_f, capital_f, marks_same]
  simp only [Option.bind_some, e1, sc64 p (by omega)]
  rw [j8_f s p (p + 10) 4 (by omega) (by omega) k (by omega), l0_f s p 3 hs _ k p (by omega) (by omega) rfl (by omega), l2_f s p 1 hs _ k p (by omega) (by omega) rfl (by omega), l3_f s p 2 hs _ k p (by omega) (by omega) rfl (by omega), l4_f s p hs _ k (p + 1) (by omega) rfl (by omega)]
  have h5 := l5_f s p (by omega) hs 21 k 0 rfl (by omega)
  rw [List.drop_zero] at h5
  have h5' : lexpriorref04_one.l5 k s p marksL 0 = some (marR s p marksL) := h5
  rw [h5']
  by_cases hd : dateI s p = true
  · rw [if_pos hd, if_pos hd]
  rw [if_neg hd, if_neg hd]
  by_cases h4 : clsI (bt s p) = 4
  · rw [if_pos (by rw [h4]; rfl), if_pos h4]
  rw [if_neg (by simpa using h4), if_neg h4]
  by_cases h2 : clsI (bt s p) = 2
  · rw [if_pos (by rw [h2]; rfl), if_pos h2]
  rw [if_neg (by simpa using h2), if_neg h2]
  by_cases h3 : clsI (bt s p) = 3
  · rw [if_pos (by rw [h3]; rfl), if_pos h3]
  rw [if_neg (by simpa using h3), if_neg h3]
  by_cases h34 : bt s p = 34
  · rw [if_pos h34, if_pos h34]
  · rw [if_neg h34, if_neg h34]
end Go.Proofs.Ytmjneidcdaapdaa.P
