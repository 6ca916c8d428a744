/- The lexer, plainly: a text and another one behind it, a byte 10 between. -/
import Derived.Test.YtmjneidcdaapdaaLex8
namespace Go.Proofs.Ytmjneidcdaapdaa.P
open Go.RowKit Go.Proofs.YtmjneidcdaapdaaW.PrintWords Go.Proofs.YtmjneidcdaapdaaW.PrintLast
set_option linter.unusedVariables false
set_option linter.unusedSimpArgs false

theorem bt_list (s : ByteArray) (i : Nat) : bt s i = ((s.data.toList.getD i 0).toNat : Int) := by
  by_cases h : i < s.size
  · rw [bt_get s i h, List.getD_eq_getElem?_getD, Lib.data_getElem? s i h]
    rfl
  · have hl := Lib.size_eq s
    unfold bt
    rw [dif_neg (by simpa using h), List.getD_eq_getElem?_getD, List.getElem?_eq_none (by omega)]
    rfl
theorem ba_ext {a b : ByteArray} (h : a.data.toList = b.data.toList) : a = b := by
  rcases a with ⟨⟨a⟩⟩
  rcases b with ⟨⟨b⟩⟩
  simp at h
  rw [h]
theorem runB_end {s : ByteArray} {Q : Int → Bool} {p : Nat} (h : s.size ≤ p) : runB s Q p = p := by
  unfold runB
  rw [show s.size - p = 0 by omega]
  rfl
theorem runB_no {s : ByteArray} {Q : Int → Bool} {p : Nat} (h : Q (bt s p) = false) : runB s Q p = p := by
  unfold runB
  cases s.size - p with
  | zero => rfl
  | succ n => simp only [runN', h]; rfl
theorem runB_yes {s : ByteArray} {Q : Int → Bool} {p : Nat} (hl : p < s.size) (h : Q (bt s p) = true) : runB s Q p = runB s Q (p + 1) := by
  unfold runB
  obtain ⟨n, hn⟩ : ∃ n, s.size - p = n + 1 := ⟨s.size - p - 1, by omega⟩
  rw [hn, show s.size - (p + 1) = n by omega]
  simp only [runN', h]
  rfl
theorem beg_ext {s : ByteArray} {p : Nat} {m : ByteArray} (hp : p ≤ s.size) (h : begB s p m = true) : m = s.extract p (p + m.size) := by
  have h0 := begB_le hp h
  unfold begB Lib.hasPrefix at h
  have h1 := List.prefix_iff_eq_take.1 (List.isPrefixOf_iff_prefix.1 h)
  apply ba_ext
  have hmz := Lib.size_eq m
  rw [h1, ← hmz]
  simp
  have hsz := Lib.size_eq s
  rw [List.take_take, Nat.min_eq_left (by omega)]
/-- What both parts are. -/
structure Glue (s a b : ByteArray) : Prop where
  size : s.size = a.size + 1 + b.size
  one : ∀ i : Nat, i < a.size → bt s i = bt a i
  mid : bt s a.size = 10
  two : ∀ i : Nat, bt s ((a.size + 1 + i : Nat) : Int) = bt b i
  cut1 : ∀ p q : Nat, q ≤ a.size → s.extract p q = a.extract p q
  cut2 : ∀ p q : Nat, s.extract (a.size + 1 + p) (a.size + 1 + q) = b.extract p q
theorem glue (a b : ByteArray) : Glue ((a ++ (⟨#[10]⟩ : ByteArray)) ++ b) a b := by
  have hl : ((a ++ (⟨#[10]⟩ : ByteArray)) ++ b).data.toList = a.data.toList ++ (10 :: b.data.toList) := by simp
  have ha := Lib.size_eq a
  refine ⟨?_, fun i hi => ?_, ?_, fun i => ?_, fun p q hq => ?_, fun p q => ?_⟩
  · simp [ByteArray.size_append]; rfl
  · rw [bt_list, bt_list, hl]
    simp only [List.getD_eq_getElem?_getD]
    rw [List.getElem?_append_left (by omega)]
  · rw [bt_list, hl]
    simp only [List.getD_eq_getElem?_getD]
    rw [List.getElem?_append_right (by omega), show a.size - a.data.toList.length = 0 by omega]
    rfl
  · rw [bt_list, bt_list, hl]
    simp only [List.getD_eq_getElem?_getD]
    rw [List.getElem?_append_right (by omega), show a.size + 1 + i - a.data.toList.length = i + 1 by omega]
    rfl
  · apply ba_ext
    simp only [ByteArray.data_extract, Array.toList_extract, List.extract_eq_take_drop, hl]
    by_cases hp : p ≤ a.data.toList.length
    · rw [List.drop_append_of_le_length hp, List.take_append_of_le_length (by simp; omega)]
    · rw [show q - p = 0 by omega]
      simp
  · apply ba_ext
    simp only [ByteArray.data_extract, Array.toList_extract, List.extract_eq_take_drop, hl]
    rw [List.drop_append, List.drop_of_length_le (by omega), show a.size + 1 + p - a.data.toList.length = p + 1 by omega, show a.size + 1 + q - (a.size + 1 + p) = q - p by omega]
    simp
section
variable {s a b : ByteArray} (h : Glue s a b)
include h
theorem Glue.runI1 {G : Int → Bool} (hG : G 1 = false) (d : Nat) : ∀ p, p ≤ a.size → a.size - p = d → runI s G p = runI a G p := by
  induction d with
  | zero =>
    intro p hp hd
    obtain rfl : p = a.size := by omega
    rw [runI_end (Nat.le_refl _), runI_no]
    rw [h.mid]
    exact hG
  | succ d IH =>
    intro p hp hd
    have hs := h.size
    rcases hg : G (clsI (bt a p)) with _ | _
    · rw [runI_no hg, runI_no (by rw [h.one p (by omega)]; exact hg)]
    · rw [runI_yes (by omega) hg, runI_yes (by omega) (by rw [h.one p (by omega)]; exact hg)]
      exact IH (p + 1) (by omega) (by omega)
theorem Glue.runB1 {Q : Int → Bool} (hQ : Q 10 = false) (d : Nat) : ∀ p, p ≤ a.size → a.size - p = d → runB s Q p = runB a Q p := by
  induction d with
  | zero =>
    intro p hp hd
    obtain rfl : p = a.size := by omega
    rw [runB_end (Nat.le_refl _), runB_no]
    rw [h.mid]
    exact hQ
  | succ d IH =>
    intro p hp hd
    have hs := h.size
    rcases hg : Q (bt a p) with _ | _
    · rw [runB_no hg, runB_no (by rw [h.one p (by omega)]; exact hg)]
    · rw [runB_yes (by omega) hg, runB_yes (by omega) (by rw [h.one p (by omega)]; exact hg)]
      exact IH (p + 1) (by omega) (by omega)
theorem Glue.runI2 {G : Int → Bool} (d : Nat) : ∀ p, p ≤ b.size → b.size - p = d → runI s G (a.size + 1 + p) = a.size + 1 + runI b G p := by
  induction d with
  | zero =>
    intro p hp hd
    have hs := h.size
    rw [runI_end (by omega), runI_end (by omega)]
  | succ d IH =>
    intro p hp hd
    have hs := h.size
    rcases hg : G (clsI (bt b p)) with _ | _
    · rw [runI_no hg, runI_no (by rw [h.two p]; exact hg)]
    · rw [runI_yes (by omega) hg, runI_yes (by omega) (by rw [h.two p]; exact hg)]
      exact IH (p + 1) (by omega) (by omega)
theorem Glue.runB2 {Q : Int → Bool} (d : Nat) : ∀ p, p ≤ b.size → b.size - p = d → runB s Q (a.size + 1 + p) = a.size + 1 + runB b Q p := by
  induction d with
  | zero =>
    intro p hp hd
    have hs := h.size
    rw [runB_end (by omega), runB_end (by omega)]
  | succ d IH =>
    intro p hp hd
    have hs := h.size
    rcases hg : Q (bt b p) with _ | _
    · rw [runB_no hg, runB_no (by rw [h.two p]; exact hg)]
    · rw [runB_yes (by omega) hg, runB_yes (by omega) (by rw [h.two p]; exact hg)]
      exact IH (p + 1) (by omega) (by omega)
theorem Glue.ok1 (p i : Nat) (hp : p + i < a.size) : dOk s p i = dOk a p i := by unfold dOk; rw [h.one _ hp]
theorem Glue.ok2 (p i : Nat) : dOk s (a.size + 1 + p) i = dOk b p i := by unfold dOk; rw [Nat.add_assoc (a.size + 1) p i, h.two]
theorem Glue.from1 (p : Nat) (n : Nat) : ∀ i, p + i + n ≤ a.size → dFrom s p n i = dFrom a p n i := by
  induction n with
  | zero => intro i _; rfl
  | succ n IH =>
    intro i hi
    simp only [dFrom]
    rw [h.ok1 p i (by omega), IH (i + 1) (by omega)]
/-- The byte 10 between is no part of a date. -/
theorem Glue.from0 (p : Nat) (n : Nat) : ∀ i, p + i ≤ a.size → a.size < p + i + n → dFrom s p n i = false := by
  induction n with
  | zero => intro i h1 h2; omega
  | succ n IH =>
    intro i h1 h2
    simp only [dFrom]
    by_cases e : p + i = a.size
    · have : dOk s p i = false := by
        unfold dOk
        rw [e, h.mid]
        split <;> rfl
      rw [this]; rfl
    · rw [IH (i + 1) (by omega) (by omega)]; simp
theorem Glue.from2 (p : Nat) (n : Nat) : ∀ i, dFrom s (a.size + 1 + p) n i = dFrom b p n i := by
  induction n with
  | zero => intro i; rfl
  | succ n IH => intro i; simp only [dFrom]; rw [h.ok2 p i, IH (i + 1)]
theorem Glue.date1 (p : Nat) (hp : p < a.size) : dateI s p = dateI a p := by
  have hs := h.size
  unfold dateI
  by_cases h10 : p + 10 ≤ a.size
  · rw [h.from1 p 10 0 (by omega), decide_eq_true h10, decide_eq_true (show p + 10 ≤ s.size by omega)]
  · rw [decide_eq_false h10, h.from0 p 10 0 (by omega) (by omega)]
    simp
theorem Glue.date2 (p : Nat) : dateI s (a.size + 1 + p) = dateI b p := by
  have hs := h.size
  unfold dateI
  rw [h.from2 p 10 0]
  congr 1
  rw [decide_eq_decide]
  omega
theorem Glue.num1 (p : Nat) (hp : p ≤ a.size) : numQ s p = numQ a p := by
  have hs := h.size
  have hr := h.runI1 (G := gD) rfl _ p hp rfl
  have hl := runI_le a gD hp
  unfold numQ
  rw [hr]
  obtain ⟨q, hq⟩ : ∃ q, q = runI a gD p := ⟨_, rfl⟩
  rw [← hq] at hl ⊢
  clear hr
  by_cases h1 : q + 1 < a.size
  · have o1 := h.one q (by omega)
    have o2 := h.one (q + 1) h1
    by_cases c : (q + 1 < a.size ∧ bt a q = 46) ∧ clsI (bt a ((q + 1 : Nat) : Int)) = 4
    · rw [if_pos c, if_pos ⟨⟨by omega, by rw [o1]; exact c.1.2⟩, by rw [o2]; exact c.2⟩, h.runI1 (G := gD) rfl _ (q + 1) (by omega) rfl]
    · rw [if_neg c, if_neg (fun x : (q + 1 < s.size ∧ bt s q = 46) ∧ clsI (bt s ((q + 1 : Nat) : Int)) = 4 => c ⟨⟨h1, by have := x.1.2; rwa [o1] at this⟩, by have := x.2; rwa [o2] at this⟩)]
  · have no : ¬ ((q + 1 < s.size ∧ bt s q = 46) ∧ clsI (bt s ((q + 1 : Nat) : Int)) = 4) := by
      rintro ⟨⟨_, x2⟩, x3⟩
      by_cases e : q = a.size
      · rw [e, h.mid] at x2; exact absurd x2 (by decide)
      · have e1 : q + 1 = a.size := by omega
        rw [e1, h.mid] at x3; exact absurd x3 (by decide)
    rw [if_neg no, if_neg (fun x : (q + 1 < a.size ∧ bt a q = 46) ∧ clsI (bt a ((q + 1 : Nat) : Int)) = 4 => h1 x.1.1)]
theorem Glue.num2 (p : Nat) (hp : p ≤ b.size) : numQ s (a.size + 1 + p) = a.size + 1 + numQ b p := by
  have hs := h.size
  have hr := h.runI2 (G := gD) _ p hp rfl
  have hl := runI_le b gD hp
  unfold numQ
  rw [hr]
  obtain ⟨q, hq⟩ : ∃ q, q = runI b gD p := ⟨_, rfl⟩
  rw [← hq] at hl ⊢
  clear hr
  have o1 := h.two q
  have o2 := h.two (q + 1)
  have e2 : a.size + 1 + q + 1 = a.size + 1 + (q + 1) := by omega
  rw [e2]
  by_cases c : (q + 1 < b.size ∧ bt b q = 46) ∧ clsI (bt b ((q + 1 : Nat) : Int)) = 4
  · rw [if_pos c, if_pos ⟨⟨by omega, by rw [o1]; exact c.1.2⟩, by rw [o2]; exact c.2⟩, h.runI2 (G := gD) _ (q + 1) (by omega) rfl]
  · rw [if_neg c, if_neg (fun x : (a.size + 1 + (q + 1) < s.size ∧ bt s ((a.size + 1 + q : Nat) : Int) = 46) ∧ clsI (bt s ((a.size + 1 + (q + 1) : Nat) : Int)) = 4 => c ⟨⟨by omega, by have := x.1.2; rwa [o1] at this⟩, by have := x.2; rwa [o2] at this⟩)]
theorem Glue.beg2 (p : Nat) (m : ByteArray) : begB s (a.size + 1 + p) m = begB b p m := by
  unfold begB
  have := h.cut2 p b.size
  have hs := h.size
  rw [← this, hs]
theorem Glue.list1 : s.data.toList = a.data.toList ++ (10 :: (s.data.toList.drop (a.size + 1))) := by
  have hs := h.size
  have h1 := Lib.size_eq s
  have h2 := Lib.size_eq a
  have hc := congrArg (fun x : ByteArray => x.data.toList) (h.cut1 0 a.size (Nat.le_refl _))
  simp only [ByteArray.data_extract, Array.toList_extract, List.extract_eq_take_drop, List.drop_zero, Nat.sub_zero] at hc
  rw [List.take_of_length_le (l := a.data.toList) (by omega)] at hc
  have hm := h.mid
  rw [bt_list] at hm
  have hlt : a.size < s.data.toList.length := by omega
  rw [List.getD_eq_getElem?_getD, List.getElem?_eq_getElem hlt] at hm
  have hx : s.data.toList[a.size] = 10 := UInt8.toNat.inj (by simp at hm; simp; omega)
  rw [← hx, ← List.drop_eq_getElem_cons hlt, ← hc]
  exact (List.take_append_drop _ _).symm
end
theorem pre_nl (l r m : List UInt8) (hm : (10 : UInt8) ∉ m) : m.isPrefixOf (l ++ 10 :: r) = m.isPrefixOf l := by
  induction l generalizing m with
  | nil =>
    cases m with
    | nil => rfl
    | cons x m =>
      have : x ≠ 10 := fun e => hm (by rw [e]; exact List.mem_cons_self)
      simp [List.isPrefixOf, this]
  | cons y l ih =>
    cases m with
    | nil => rfl
    | cons x m =>
      simp only [List.cons_append, List.isPrefixOf]
      rw [ih m (fun h => hm (List.mem_cons_of_mem _ h))]
theorem marks_nl : ∀ m ∈ marksL, (10 : UInt8) ∉ m.data.toList := by decide
end Go.Proofs.Ytmjneidcdaapdaa.P
