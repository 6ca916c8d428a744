/- The lexer, plainly: two texts with a blank between. -/
import Derived.Test.YtmjneidcdaapdaaLexU
import Derived.Test.YtmjneidcdaapdaaLexV
namespace Go.Proofs.Ytmjneidcdaapdaa.P
open Go.RowKit Go.Proofs.YtmjneidcdaapdaaW.PrintWords Go.Proofs.YtmjneidcdaapdaaW.PrintLast
set_option linter.unusedVariables false
set_option linter.unusedSimpArgs false

/-- What both parts are. -/
structure Gl32 (s a b : ByteArray) : Prop where
  size : s.size = a.size + 1 + b.size
  one : ∀ i : Nat, i < a.size → bt s i = bt a i
  mid : bt s a.size = 32
  two : ∀ i : Nat, bt s ((a.size + 1 + i : Nat) : Int) = bt b i
  cut1 : ∀ p q : Nat, q ≤ a.size → s.extract p q = a.extract p q
  cut2 : ∀ p q : Nat, s.extract (a.size + 1 + p) (a.size + 1 + q) = b.extract p q
theorem gl32 (a b : ByteArray) : Gl32 ((a ++ (⟨#[32]⟩ : ByteArray)) ++ b) a b := by
  have hl : ((a ++ (⟨#[32]⟩ : ByteArray)) ++ b).data.toList = a.data.toList ++ (32 :: b.data.toList) := by simp
  have ha := Lib.size_eq a
  refine ⟨?_, fun i hi => ?_, ?_, fun i => ?_, fun p q hq => ?_, fun p q => ?_⟩
  · simp [ByteArray.size_append]; rfl
  · rw [bt_list, bt_list, hl]
    simp only [List.getD_eq_getElem?_getD]
    rw [List.getElem?_append_left (by omega)]
  · rw [bt_list, hl]
    simp only [List.getD_eq_getElem?_getD]
    rw [List.getElem?_append_right (by omega), show a.size - a.data.toList.length = 0 by omega]
    rfl
  · rw [bt_list, bt_list, hl]
    simp only [List.getD_eq_getElem?_getD]
    rw [List.getElem?_append_right (by omega), show a.size + 1 + i - a.data.toList.length = i + 1 by omega]
    rfl
  · apply ba_ext
    simp only [ByteArray.data_extract, Array.toList_extract, List.extract_eq_take_drop, hl]
    by_cases hp : p ≤ a.data.toList.length
    · rw [List.drop_append_of_le_length hp, List.take_append_of_le_length (by simp; omega)]
    · rw [show q - p = 0 by omega]
      simp
  · apply ba_ext
    simp only [ByteArray.data_extract, Array.toList_extract, List.extract_eq_take_drop, hl]
    rw [List.drop_append, List.drop_of_length_le (by omega), show a.size + 1 + p - a.data.toList.length = p + 1 by omega, show a.size + 1 + q - (a.size + 1 + p) = q - p by omega]
    simp
section
variable {s a b : ByteArray} (h : Gl32 s a b)
include h
theorem Gl32.runI1 {G : Int → Bool} (hG : G 1 = false) (d : Nat) : ∀ p, p ≤ a.size → a.size - p = d → runI s G p = runI a G p := by
  induction d with
  | zero =>
    intro p hp hd
    obtain rfl : p = a.size := by omega
    rw [runI_end (Nat.le_refl _), runI_no]
    rw [h.mid]
    exact hG
  | succ d IH =>
    intro p hp hd
    have hs := h.size
    rcases hg : G (clsI (bt a p)) with _ | _
    · rw [runI_no hg, runI_no (by rw [h.one p (by omega)]; exact hg)]
    · rw [runI_yes (by omega) hg, runI_yes (by omega) (by rw [h.one p (by omega)]; exact hg)]
      exact IH (p + 1) (by omega) (by omega)
theorem Gl32.runI2 {G : Int → Bool} (d : Nat) : ∀ p, p ≤ b.size → b.size - p = d → runI s G (a.size + 1 + p) = a.size + 1 + runI b G p := by
  induction d with
  | zero =>
    intro p hp hd
    have hs := h.size
    rw [runI_end (by omega), runI_end (by omega)]
  | succ d IH =>
    intro p hp hd
    have hs := h.size
    rcases hg : G (clsI (bt b p)) with _ | _
    · rw [runI_no hg, runI_no (by rw [h.two p]; exact hg)]
    · rw [runI_yes (by omega) hg, runI_yes (by omega) (by rw [h.two p]; exact hg)]
      exact IH (p + 1) (by omega) (by omega)
theorem Gl32.runB2 {Q : Int → Bool} (d : Nat) : ∀ p, p ≤ b.size → b.size - p = d → runB s Q (a.size + 1 + p) = a.size + 1 + runB b Q p := by
  induction d with
  | zero =>
    intro p hp hd
    have hs := h.size
    rw [runB_end (by omega), runB_end (by omega)]
  | succ d IH =>
    intro p hp hd
    have hs := h.size
    rcases hg : Q (bt b p) with _ | _
    · rw [runB_no hg, runB_no (by rw [h.two p]; exact hg)]
    · rw [runB_yes (by omega) hg, runB_yes (by omega) (by rw [h.two p]; exact hg)]
      exact IH (p + 1) (by omega) (by omega)
theorem Gl32.ok1 (p i : Nat) (hp : p + i < a.size) : dOk s p i = dOk a p i := by unfold dOk; rw [h.one _ hp]
theorem Gl32.ok2 (p i : Nat) : dOk s (a.size + 1 + p) i = dOk b p i := by unfold dOk; rw [Nat.add_assoc (a.size + 1) p i, h.two]
theorem Gl32.from1 (p : Nat) (n : Nat) : ∀ i, p + i + n ≤ a.size → dFrom s p n i = dFrom a p n i := by
  induction n with
  | zero => intro i _; rfl
  | succ n IH =>
    intro i hi
    simp only [dFrom]
    rw [h.ok1 p i (by omega), IH (i + 1) (by omega)]
/-- The byte 32 between is no part of a date. -/
theorem Gl32.from0 (p : Nat) (n : Nat) : ∀ i, p + i ≤ a.size → a.size < p + i + n → dFrom s p n i = false := by
  induction n with
  | zero => intro i h1 h2; omega
  | succ n IH =>
    intro i h1 h2
    simp only [dFrom]
    by_cases e : p + i = a.size
    · have : dOk s p i = false := by
        unfold dOk
        rw [e, h.mid]
        split <;> rfl
      rw [this]; rfl
    · rw [IH (i + 1) (by omega) (by omega)]; simp
theorem Gl32.from2 (p : Nat) (n : Nat) : ∀ i, dFrom s (a.size + 1 + p) n i = dFrom b p n i := by
  induction n with
  | zero => intro i; rfl
  | succ n IH => intro i; simp only [dFrom]; rw [h.ok2 p i, IH (i + 1)]
theorem Gl32.date1 (p : Nat) (hp : p < a.size) : dateI s p = dateI a p := by
  have hs := h.size
  unfold dateI
  by_cases h10 : p + 10 ≤ a.size
  · rw [h.from1 p 10 0 (by omega), decide_eq_true h10, decide_eq_true (show p + 10 ≤ s.size by omega)]
  · rw [decide_eq_false h10, h.from0 p 10 0 (by omega) (by omega)]
    simp
theorem Gl32.date2 (p : Nat) : dateI s (a.size + 1 + p) = dateI b p := by
  have hs := h.size
  unfold dateI
  rw [h.from2 p 10 0]
  congr 1
  rw [decide_eq_decide]
  omega
theorem Gl32.num1 (p : Nat) (hp : p ≤ a.size) : numQ s p = numQ a p := by
  have hs := h.size
  have hr := h.runI1 (G := gD) rfl _ p hp rfl
  have hl := runI_le a gD hp
  unfold numQ
  rw [hr]
  obtain ⟨q, hq⟩ : ∃ q, q = runI a gD p := ⟨_, rfl⟩
  rw [← hq] at hl ⊢
  clear hr
  by_cases h1 : q + 1 < a.size
  · have o1 := h.one q (by omega)
    have o2 := h.one (q + 1) h1
    by_cases c : (q + 1 < a.size ∧ bt a q = 46) ∧ clsI (bt a ((q + 1 : Nat) : Int)) = 4
    · rw [if_pos c, if_pos ⟨⟨by omega, by rw [o1]; exact c.1.2⟩, by rw [o2]; exact c.2⟩, h.runI1 (G := gD) rfl _ (q + 1) (by omega) rfl]
    · rw [if_neg c, if_neg (fun x : (q + 1 < s.size ∧ bt s q = 46) ∧ clsI (bt s ((q + 1 : Nat) : Int)) = 4 => c ⟨⟨h1, by have := x.1.2; rwa [o1] at this⟩, by have := x.2; rwa [o2] at this⟩)]
  · have no : ¬ ((q + 1 < s.size ∧ bt s q = 46) ∧ clsI (bt s ((q + 1 : Nat) : Int)) = 4) := by
      rintro ⟨⟨_, x2⟩, x3⟩
      by_cases e : q = a.size
      · rw [e, h.mid] at x2; exact absurd x2 (by decide)
      · have e1 : q + 1 = a.size := by omega
        rw [e1, h.mid] at x3; exact absurd x3 (by decide)
    rw [if_neg no, if_neg (fun x : (q + 1 < a.size ∧ bt a q = 46) ∧ clsI (bt a ((q + 1 : Nat) : Int)) = 4 => h1 x.1.1)]
theorem Gl32.num2 (p : Nat) (hp : p ≤ b.size) : numQ s (a.size + 1 + p) = a.size + 1 + numQ b p := by
  have hs := h.size
  have hr := h.runI2 (G := gD) _ p hp rfl
  have hl := runI_le b gD hp
  unfold numQ
  rw [hr]
  obtain ⟨q, hq⟩ : ∃ q, q = runI b gD p := ⟨_, rfl⟩
  rw [← hq] at hl ⊢
  clear hr
  have o1 := h.two q
  have o2 := h.two (q + 1)
  have e2 : a.size + 1 + q + 1 = a.size + 1 + (q + 1) := by omega
  rw [e2]
  by_cases c : (q + 1 < b.size ∧ bt b q = 46) ∧ clsI (bt b ((q + 1 : Nat) : Int)) = 4
  · rw [if_pos c, if_pos ⟨⟨by omega, by rw [o1]; exact c.1.2⟩, by rw [o2]; exact c.2⟩, h.runI2 (G := gD) _ (q + 1) (by omega) rfl]
  · rw [if_neg c, if_neg (fun x : (a.size + 1 + (q + 1) < s.size ∧ bt s ((a.size + 1 + q : Nat) : Int) = 46) ∧ clsI (bt s ((a.size + 1 + (q + 1) : Nat) : Int)) = 4 => c ⟨⟨by omega, by have := x.1.2; rwa [o1] at this⟩, by have := x.2; rwa [o2] at this⟩)]
theorem Gl32.beg2 (p : Nat) (m : ByteArray) : begB s (a.size + 1 + p) m = begB b p m := by
  unfold begB
  have := h.cut2 p b.size
  have hs := h.size
  rw [← this, hs]
theorem Gl32.list1 : s.data.toList = a.data.toList ++ (32 :: (s.data.toList.drop (a.size + 1))) := by
  have hs := h.size
  have h1 := Lib.size_eq s
  have h2 := Lib.size_eq a
  have hc := congrArg (fun x : ByteArray => x.data.toList) (h.cut1 0 a.size (Nat.le_refl _))
  simp only [ByteArray.data_extract, Array.toList_extract, List.extract_eq_take_drop, List.drop_zero, Nat.sub_zero] at hc
  rw [List.take_of_length_le (l := a.data.toList) (by omega)] at hc
  have hm := h.mid
  rw [bt_list] at hm
  have hlt : a.size < s.data.toList.length := by omega
  rw [List.getD_eq_getElem?_getD, List.getElem?_eq_getElem hlt] at hm
  have hx : s.data.toList[a.size] = 32 := UInt8.toNat.inj (by simp at hm; simp; omega)
  rw [← hx, ← List.drop_eq_getElem_cons hlt, ← hc]
  exact (List.take_append_drop _ _).symm
end
theorem pre_sp (l r m : List UInt8) (hm : (32 : UInt8) ∉ m) : m.isPrefixOf (l ++ 32 :: r) = m.isPrefixOf l := by
  induction l generalizing m with
  | nil =>
    cases m with
    | nil => rfl
    | cons x m =>
      have : x ≠ 32 := fun e => hm (by rw [e]; exact List.mem_cons_self)
      simp [List.isPrefixOf, this]
  | cons y l ih =>
    cases m with
    | nil => rfl
    | cons x m =>
      simp only [List.cons_append, List.isPrefixOf]
      rw [ih m (fun h => hm (List.mem_cons_of_mem _ h))]
theorem marks_sp : ∀ m ∈ marksL, (32 : UInt8) ∉ m.data.toList := by decide
section
variable {s a b : ByteArray} (h : Gl32 s a b)
include h
theorem Gl32.find1 (p : Nat) (hp : p ≤ a.size) : ∀ l : List ByteArray, (∀ m ∈ l, (32 : UInt8) ∉ m.data.toList) → findM s p l = findM a p l
  | [], _ => rfl
  | m :: l, hl => by
    have hb : begB s p m = begB a p m := by
      unfold begB Lib.hasPrefix
      rw [ext_list, ext_list, h.list1]
      have := Lib.size_eq a
      rw [List.drop_append_of_le_length (by omega)]
      exact pre_sp _ _ _ (hl m List.mem_cons_self)
    simp only [findM]
    rw [hb, Gl32.find1 p hp l (fun m hm => hl m (List.mem_cons_of_mem _ hm))]
theorem Gl32.find2 (p : Nat) : ∀ l : List ByteArray, findM s (a.size + 1 + p) l = findM b p l
  | [] => rfl
  | m :: l => by simp only [findM]; rw [h.beg2, Gl32.find2 p l]
theorem Gl32.put1 (p q : Nat) (k : Int) (T : List Tk) (R : List ByteArray) (hq : q ≤ a.size) : putP s p k q T R = putP a p k q T R := by
  have hs := h.size
  unfold putP
  rw [h.cut1 p q hq]
  by_cases e : q < a.size
  · have e1 : q < s.size := by omega
    rw [h.one q e]
    simp only [e, e1, true_and]
  · obtain rfl : q = a.size := by omega
    rw [if_neg (fun x : a.size < a.size ∧ _ => e x.1), if_neg]
    rintro ⟨_, x⟩
    rw [h.mid] at x
    exact absurd x (by decide)
theorem Gl32.nex1 (p : Nat) (T : List Tk) (R : List ByteArray) (hp : p < a.size) (h34 : bt a p ≠ 34) (h35 : bt a p ≠ 35) : nexP s p T R = nexP a p T R := by
  have hs := h.size
  have hrN := h.runI1 (G := gN) rfl _ p (by omega) rfl
  have hrV := h.runI1 (G := gV) rfl _ p (by omega) rfl
  unfold nexP wordP numP marP
  rw [h.one p hp, hrN, hrV, h.date1 p hp, h.num1 p (by omega), h.find1 p (by omega) marksL marks_sp, if_neg h34, if_neg h34, if_neg h35, if_neg h35]
  rw [h.put1 p _ 1 T R (runI_le a gN (by omega)).2, h.put1 p _ 2 T R (runI_le a gV (by omega)).2, h.put1 p _ 3 T R (numQ_le a (by omega)).2]
  by_cases hd : dateI a p = true
  · have : p + 10 ≤ a.size := by unfold dateI at hd; simp at hd; exact hd.1
    rw [h.put1 p (p + 10) 4 T R this]
  · rw [if_neg hd, if_neg hd]
theorem Gl32.nex2 (p : Nat) (T : List Tk) (R : List ByteArray) (hp : p < b.size) : (nexP s (a.size + 1 + p) T R).1 = (nexP b p [] []).1 ∧ ((nexP b p [] []).1 = true →
    (nexP s (a.size + 1 + p) T R).2.1 = a.size + 1 + (nexP b p [] []).2.1 ∧ (nexP s (a.size + 1 + p) T R).2.2.1 = T ++ (nexP b p [] []).2.2.1.map (shT (a.size + 1)) ∧ (nexP s (a.size + 1 + p) T R).2.2.2.1 = R ++ (nexP b p [] []).2.2.2.1) := by
  have hs := h.size
  have hput : ∀ k q, (putP s (a.size + 1 + p) k (a.size + 1 + q) T R).1 = (putP b p k q [] []).1 ∧ ((putP b p k q [] []).1 = true → (putP s (a.size + 1 + p) k (a.size + 1 + q) T R).2.1 = a.size + 1 + (putP b p k q [] []).2.1 ∧ (putP s (a.size + 1 + p) k (a.size + 1 + q) T R).2.2.1 = T ++ (putP b p k q [] []).2.2.1.map (shT (a.size + 1)) ∧ (putP s (a.size + 1 + p) k (a.size + 1 + q) T R).2.2.2.1 = R ++ (putP b p k q [] []).2.2.2.1) := fun k q => by
    unfold putP
    rw [h.two q, h.cut2 p q]
    have e : (a.size + 1 + q < s.size) ↔ (q < b.size) := by omega
    simp only [e]
    by_cases c : q < b.size ∧ gV (clsI (bt b q)) = true
    · rw [if_pos c, if_pos c]; simp
    · rw [if_neg c, if_neg c]
      refine ⟨rfl, fun _ => ⟨rfl, ?_, by simp⟩⟩
      simp [shT]
      omega
  have hword : ∀ k G, (wordP s (a.size + 1 + p) k G T R).1 = (wordP b p k G [] []).1 ∧ ((wordP b p k G [] []).1 = true → (wordP s (a.size + 1 + p) k G T R).2.1 = a.size + 1 + (wordP b p k G [] []).2.1 ∧ (wordP s (a.size + 1 + p) k G T R).2.2.1 = T ++ (wordP b p k G [] []).2.2.1.map (shT (a.size + 1)) ∧ (wordP s (a.size + 1 + p) k G T R).2.2.2.1 = R ++ (wordP b p k G [] []).2.2.2.1) := fun k G => by
    unfold wordP
    rw [h.runI2 (G := G) _ p (by omega) rfl, show a.size + 1 + runI b G p - (a.size + 1 + p) = runI b G p - p by omega]
    by_cases c : 32 < runI b G p - p
    · rw [if_pos c, if_pos c]; exact ⟨rfl, fun x => absurd x (by simp)⟩
    · rw [if_neg c, if_neg c]; exact hput k _
  unfold nexP
  rw [h.two p]
  by_cases c1 : clsI (bt b p) = 1
  · rw [if_pos c1, if_pos c1]
    exact ⟨rfl, fun _ => ⟨by simp only; omega, by simp, by simp⟩⟩
  rw [if_neg c1, if_neg c1]
  by_cases c2 : clsI (bt b p) = 2
  · rw [if_pos c2, if_pos c2]; exact hword _ _
  rw [if_neg c2, if_neg c2]
  by_cases c3 : clsI (bt b p) = 3
  · rw [if_pos c3, if_pos c3]; exact hword _ _
  rw [if_neg c3, if_neg c3]
  by_cases c4 : clsI (bt b p) = 4
  · rw [if_pos c4, if_pos c4]
    unfold numP
    rw [h.date2 p, h.num2 p (by omega)]
    by_cases cd : dateI b p = true
    · rw [if_pos cd, if_pos cd]; exact hput 4 (p + 10)
    · rw [if_neg cd, if_neg cd]; exact hput 3 _
  rw [if_neg c4, if_neg c4]
  by_cases c34 : bt b p = 34
  · rw [if_pos c34, if_pos c34]
    unfold quoP
    rw [Nat.add_assoc (a.size + 1) p 1, h.runB2 (Q := qB) _ (p + 1) (by omega) rfl, h.two, h.cut2]
    obtain ⟨q, hq⟩ : ∃ q, q = runB b qB (p + 1) := ⟨_, rfl⟩
    rw [← hq]
    have e : (a.size + 1 + q < s.size) ↔ (q < b.size) := by omega
    simp only [e]
    by_cases c : q < b.size ∧ bt b (q : Nat) ≠ 10
    · rw [if_pos c, if_pos c]
      refine ⟨rfl, fun _ => ⟨by simp only; omega, ?_, by simp⟩⟩
      simp [shT]
      omega
    · rw [if_neg c, if_neg c]; exact ⟨rfl, fun x => absurd x (by simp)⟩
  rw [if_neg c34, if_neg c34]
  by_cases c35 : bt b p = 35
  · rw [if_pos c35, if_pos c35]
    unfold remP
    rw [Nat.add_assoc (a.size + 1) p 1, h.runB2 (Q := nB) _ (p + 1) (by omega) rfl, h.cut2]
    exact ⟨rfl, fun _ => ⟨rfl, by simp, by simp⟩⟩
  rw [if_neg c35, if_neg c35]
  unfold marP
  rw [h.find2 p]
  rcases findM b p marksL with _ | m
  · exact ⟨rfl, fun x => absurd x (by simp)⟩
  · refine ⟨rfl, fun _ => ⟨by simp only; omega, ?_, by simp⟩⟩
    simp [shT]
    omega
theorem Gl32.scan2 (d : Nat) : ∀ (p : Nat) (T T0 : List Tk) (R R0 : List ByteArray), p ≤ b.size → b.size - p ≤ d →
    ((scanF b p T0 R0).2.2.1 = 0 → ∃ dT dR, (scanF b p T0 R0).1 = T0 ++ dT ∧ (scanF b p T0 R0).2.1 = R0 ++ dR ∧ (scanF s (a.size + 1 + p) T R).2.2.1 = 0 ∧ (scanF s (a.size + 1 + p) T R).1 = T ++ dT.map (shT (a.size + 1)) ∧ (scanF s (a.size + 1 + p) T R).2.1 = R ++ dR) ∧
    ((scanF b p T0 R0).2.2.1 ≠ 0 → (scanF s (a.size + 1 + p) T R).2.2.1 ≠ 0 ∧ (scanF s (a.size + 1 + p) T R).1 = []) := by
  have hs := h.size
  have hend : ∀ (p : Nat) (T T0 : List Tk) (R R0 : List ByteArray), ¬ p < b.size → p ≤ b.size → ((scanF b p T0 R0).2.2.1 = 0 → ∃ dT dR, (scanF b p T0 R0).1 = T0 ++ dT ∧ (scanF b p T0 R0).2.1 = R0 ++ dR ∧ (scanF s (a.size + 1 + p) T R).2.2.1 = 0 ∧ (scanF s (a.size + 1 + p) T R).1 = T ++ dT.map (shT (a.size + 1)) ∧ (scanF s (a.size + 1 + p) T R).2.1 = R ++ dR) ∧
    ((scanF b p T0 R0).2.2.1 ≠ 0 → (scanF s (a.size + 1 + p) T R).2.2.1 ≠ 0 ∧ (scanF s (a.size + 1 + p) T R).1 = []) := fun p T T0 R R0 h1 h2 => by
    rw [scanF_end h1, scanF_end (p := a.size + 1 + p) (by omega)]
    exact ⟨fun _ => ⟨[], [], by simp, by simp, rfl, by simp, by simp⟩, fun x => absurd rfl x⟩
  induction d with
  | zero =>
    intro p T T0 R R0 hp hd
    exact hend p T T0 R R0 (by omega) hp
  | succ d IH =>
    intro p T T0 R R0 hp hd
    by_cases hlt : p < b.size
    · obtain ⟨n1, n2⟩ := h.nex2 p T R hlt
      have ha := nexP_app b p T0 R0
      rcases hr : (nexP b p [] []).1 with _ | _
      · have hr0 : (nexP b p T0 R0).1 = false := by rw [ha]; exact hr
        have hrs : (nexP s (a.size + 1 + p) T R).1 = false := by rw [n1]; exact hr
        have hne := (nexP_adv T0 R0 hlt).2 hr0
        have hne2 := (nexP_adv (s := s) (p := a.size + 1 + p) T R (by omega)).2 hrs
        rw [scanF_no hlt hr0, scanF_no (p := a.size + 1 + p) (by omega) hrs]
        exact ⟨fun x => absurd x hne, fun _ => ⟨hne2, rfl⟩⟩
      · have hr0 : (nexP b p T0 R0).1 = true := by rw [ha]; exact hr
        have hrs : (nexP s (a.size + 1 + p) T R).1 = true := by rw [n1]; exact hr
        obtain ⟨m1, m2, m3⟩ := n2 hr
        have hav := (nexP_adv T0 R0 hlt).1 hr0
        rw [scanF_go hlt hr0, scanF_go (p := a.size + 1 + p) (by omega) hrs, m1, m2, m3]
        have e1 : (nexP b p T0 R0).2.1 = (nexP b p [] []).2.1 := by rw [ha]
        have e2 : (nexP b p T0 R0).2.2.1 = T0 ++ (nexP b p [] []).2.2.1 := by rw [ha]
        have e3 : (nexP b p T0 R0).2.2.2.1 = R0 ++ (nexP b p [] []).2.2.2.1 := by rw [ha]
        rw [e1] at hav ⊢
        rw [e2, e3]
        obtain ⟨i1, i2⟩ := IH (nexP b p [] []).2.1 (T ++ (nexP b p [] []).2.2.1.map (shT (a.size + 1))) (T0 ++ (nexP b p [] []).2.2.1) (R ++ (nexP b p [] []).2.2.2.1) (R0 ++ (nexP b p [] []).2.2.2.1) hav.2.1 (by omega)
        refine ⟨fun x => ?_, i2⟩
        obtain ⟨dT, dR, f1, f2, f3, f4, f5⟩ := i1 x
        exact ⟨(nexP b p [] []).2.2.1 ++ dT, (nexP b p [] []).2.2.2.1 ++ dR, by rw [f1]; simp, by rw [f2]; simp, f3, by rw [f4]; simp, by rw [f5]; simp⟩
    · exact hend p T T0 R R0 hlt hp
end
end Go.Proofs.Ytmjneidcdaapdaa.P
