/- The lexer, plainly: what both parts tell, the whole tells. -/
import Derived.Test.YtmjneidcdaapdaaLexT
namespace Go.Proofs.Ytmjneidcdaapdaa.P
open Go.RowKit Go.Proofs.YtmjneidcdaapdaaW.PrintWords Go.Proofs.YtmjneidcdaapdaaW.PrintLast
set_option linter.unusedVariables false
set_option linter.unusedSimpArgs false

theorem ext_list (s : ByteArray) (p : Nat) : (s.extract p s.size).data.toList = s.data.toList.drop p := by
  simp
  have := Lib.size_eq s
  rw [List.take_of_length_le (by first | (simp; done) | (simp; omega))]
section
variable {s a b : ByteArray} (h : Glue s a b)
include h
theorem Glue.find1 (p : Nat) (hp : p ≤ a.size) : ∀ l : List ByteArray, (∀ m ∈ l, (10 : UInt8) ∉ m.data.toList) → findM s p l = findM a p l
  | [], _ => rfl
  | m :: l, hl => by
    have hb : begB s p m = begB a p m := by
      unfold begB Lib.hasPrefix
      rw [ext_list, ext_list, h.list1]
      have := Lib.size_eq a
      rw [List.drop_append_of_le_length (by omega)]
      exact pre_nl _ _ _ (hl m List.mem_cons_self)
    simp only [findM]
    rw [hb, Glue.find1 p hp l (fun m hm => hl m (List.mem_cons_of_mem _ hm))]
theorem Glue.find2 (p : Nat) : ∀ l : List ByteArray, findM s (a.size + 1 + p) l = findM b p l
  | [] => rfl
  | m :: l => by simp only [findM]; rw [h.beg2, Glue.find2 p l]
theorem Glue.put1 (p q : Nat) (k : Int) (T : List Tk) (R : List ByteArray) (hq : q ≤ a.size) : putP s p k q T R = putP a p k q T R := by
  have hs := h.size
  unfold putP
  rw [h.cut1 p q hq]
  by_cases e : q < a.size
  · have e1 : q < s.size := by omega
    rw [h.one q e]
    simp only [e, e1, true_and]
  · obtain rfl : q = a.size := by omega
    rw [if_neg (fun x : a.size < a.size ∧ _ => e x.1), if_neg]
    rintro ⟨_, x⟩
    rw [h.mid] at x
    exact absurd x (by decide)
theorem Glue.nex1 (p : Nat) (T : List Tk) (R : List ByteArray) (hp : p < a.size) : nexP s p T R = nexP a p T R := by
  have hs := h.size
  have hrN := h.runI1 (G := gN) rfl _ p (by omega) rfl
  have hrV := h.runI1 (G := gV) rfl _ p (by omega) rfl
  have hqB := h.runB1 (Q := qB) rfl _ (p + 1) (by omega) rfl
  have hnB := h.runB1 (Q := nB) rfl _ (p + 1) (by omega) rfl
  have sq := runB_spec a qB (p := p + 1) (by omega)
  have sn := runB_spec a nB (p := p + 1) (by omega)
  unfold nexP wordP numP quoP remP marP
  rw [h.one p hp, hrN, hrV, hqB, hnB, h.date1 p hp, h.num1 p (by omega), h.find1 p (by omega) marksL marks_nl]
  rw [h.put1 p _ 1 T R (runI_le a gN (by omega)).2, h.put1 p _ 2 T R (runI_le a gV (by omega)).2, h.put1 p _ 3 T R (numQ_le a (by omega)).2, h.cut1 _ _ sq.2.1, h.cut1 _ _ sn.2.1]
  obtain ⟨q, hq⟩ : ∃ q, q = runB a qB (p + 1) := ⟨_, rfl⟩
  rw [← hq] at sq ⊢
  have hquo : (q < s.size ∧ bt s (q : Nat) ≠ 10) ↔ (q < a.size ∧ bt a (q : Nat) ≠ 10) := by
    by_cases e : q < a.size
    · rw [h.one q e]
      exact ⟨fun x => ⟨e, x.2⟩, fun x => ⟨by omega, x.2⟩⟩
    · obtain rfl : q = a.size := by omega
      exact ⟨fun x => absurd h.mid x.2, fun x => absurd x.1 e⟩
  simp only [hquo]
  by_cases hd : dateI a p = true
  · have : p + 10 ≤ a.size := by unfold dateI at hd; simp at hd; exact hd.1
    rw [h.put1 p (p + 10) 4 T R this]
  · rw [if_neg hd, if_neg hd]
theorem Glue.scan1 (d : Nat) : ∀ (p : Nat) (T : List Tk) (R : List ByteArray), p ≤ a.size → a.size - p ≤ d →
    ((scanF a p T R).2.2.1 = 0 → scanF s p T R = scanF s (a.size + 1) (scanF a p T R).1 (scanF a p T R).2.1) ∧ ((scanF a p T R).2.2.1 ≠ 0 → (scanF s p T R).2.2.1 ≠ 0 ∧ (scanF s p T R).1 = []) := by
  have hs := h.size
  have hend : ∀ (T : List Tk) (R : List ByteArray), scanF s a.size T R = scanF s (a.size + 1) T R := fun T R => by
    have hn : nexP s a.size T R = (true, a.size + 1, T, R, 0, 0) := by unfold nexP; rw [h.mid]; rfl
    rw [scanF_go (by omega) (by rw [hn]), hn]
  induction d with
  | zero =>
    intro p T R hp hd
    obtain rfl : p = a.size := by omega
    rw [scanF_end (Nat.lt_irrefl _)]
    exact ⟨fun _ => hend T R, fun x => absurd rfl x⟩
  | succ d IH =>
    intro p T R hp hd
    by_cases hlt : p < a.size
    · have hn := h.nex1 p T R hlt
      rcases hr : (nexP a p T R).1 with _ | _
      · have hne := (nexP_adv T R hlt).2 hr
        rw [scanF_no hlt hr, scanF_no (p := p) (by omega) (by rw [hn]; exact hr), hn]
        exact ⟨fun x => absurd x hne, fun _ => ⟨hne, rfl⟩⟩
      · have hav := (nexP_adv T R hlt).1 hr
        rw [scanF_go hlt hr, scanF_go (p := p) (by omega) (by rw [hn]; exact hr), hn]
        exact IH _ _ _ hav.2.1 (by omega)
    · obtain rfl : p = a.size := by omega
      rw [scanF_end (Nat.lt_irrefl _)]
      exact ⟨fun _ => hend T R, fun x => absurd rfl x⟩
def shT (c : Nat) (t : Tk) : Tk := ⟨t.f0, t.f1, t.f2 + c⟩
omit h in
theorem nexP_app (b : ByteArray) (p : Nat) (T : List Tk) (R : List ByteArray) : nexP b p T R = ((nexP b p [] []).1, (nexP b p [] []).2.1, T ++ (nexP b p [] []).2.2.1, R ++ (nexP b p [] []).2.2.2.1, (nexP b p [] []).2.2.2.2.1, (nexP b p [] []).2.2.2.2.2) := by
  have hput : ∀ k q, putP b p k q T R = ((putP b p k q [] []).1, (putP b p k q [] []).2.1, T ++ (putP b p k q [] []).2.2.1, R ++ (putP b p k q [] []).2.2.2.1, (putP b p k q [] []).2.2.2.2.1, (putP b p k q [] []).2.2.2.2.2) := fun k q => by
    unfold putP
    split <;> simp
  unfold nexP
  split
  · simp
  split
  · unfold wordP; split
    · simp
    · exact hput _ _
  split
  · unfold wordP; split
    · simp
    · exact hput _ _
  split
  · unfold numP; split
    · exact hput _ _
    · exact hput _ _
  split
  · unfold quoP; split <;> simp
  split
  · unfold remP; simp
  · unfold marP; split <;> simp
theorem Glue.nex2 (p : Nat) (T : List Tk) (R : List ByteArray) (hp : p < b.size) : (nexP s (a.size + 1 + p) T R).1 = (nexP b p [] []).1 ∧ ((nexP b p [] []).1 = true →
    (nexP s (a.size + 1 + p) T R).2.1 = a.size + 1 + (nexP b p [] []).2.1 ∧ (nexP s (a.size + 1 + p) T R).2.2.1 = T ++ (nexP b p [] []).2.2.1.map (shT (a.size + 1)) ∧ (nexP s (a.size + 1 + p) T R).2.2.2.1 = R ++ (nexP b p [] []).2.2.2.1) := by
  have hs := h.size
  have hput : ∀ k q, (putP s (a.size + 1 + p) k (a.size + 1 + q) T R).1 = (putP b p k q [] []).1 ∧ ((putP b p k q [] []).1 = true → (putP s (a.size + 1 + p) k (a.size + 1 + q) T R).2.1 = a.size + 1 + (putP b p k q [] []).2.1 ∧ (putP s (a.size + 1 + p) k (a.size + 1 + q) T R).2.2.1 = T ++ (putP b p k q [] []).2.2.1.map (shT (a.size + 1)) ∧ (putP s (a.size + 1 + p) k (a.size + 1 + q) T R).2.2.2.1 = R ++ (putP b p k q [] []).2.2.2.1) := fun k q => by
    unfold putP
    rw [h.two q, h.cut2 p q]
    have e : (a.size + 1 + q < s.size) ↔ (q < b.size) := by omega
    simp only [e]
    by_cases c : q < b.size ∧ gV (clsI (bt b q)) = true
    · rw [if_pos c, if_pos c]; simp
    · rw [if_neg c, if_neg c]
      refine ⟨rfl, fun _ => ⟨rfl, ?_, by simp⟩⟩
      simp [shT]
      omega
  have hword : ∀ k G, (wordP s (a.size + 1 + p) k G T R).1 = (wordP b p k G [] []).1 ∧ ((wordP b p k G [] []).1 = true → (wordP s (a.size + 1 + p) k G T R).2.1 = a.size + 1 + (wordP b p k G [] []).2.1 ∧ (wordP s (a.size + 1 + p) k G T R).2.2.1 = T ++ (wordP b p k G [] []).2.2.1.map (shT (a.size + 1)) ∧ (wordP s (a.size + 1 + p) k G T R).2.2.2.1 = R ++ (wordP b p k G [] []).2.2.2.1) := fun k G => by
    unfold wordP
    rw [h.runI2 (G := G) _ p (by omega) rfl, show a.size + 1 + runI b G p - (a.size + 1 + p) = runI b G p - p by omega]
    by_cases c : 32 < runI b G p - p
    · rw [if_pos c, if_pos c]; exact ⟨rfl, fun x => absurd x (by simp)⟩
    · rw [if_neg c, if_neg c]; exact hput k _
  unfold nexP
  rw [h.two p]
  by_cases c1 : clsI (bt b p) = 1
  · rw [if_pos c1, if_pos c1]
    exact ⟨rfl, fun _ => ⟨by simp only; omega, by simp, by simp⟩⟩
  rw [if_neg c1, if_neg c1]
  by_cases c2 : clsI (bt b p) = 2
  · rw [if_pos c2, if_pos c2]; exact hword _ _
  rw [if_neg c2, if_neg c2]
  by_cases c3 : clsI (bt b p) = 3
  · rw [if_pos c3, if_pos c3]; exact hword _ _
  rw [if_neg c3, if_neg c3]
  by_cases c4 : clsI (bt b p) = 4
  · rw [if_pos c4, if_pos c4]
    unfold numP
    rw [h.date2 p, h.num2 p (by omega)]
    by_cases cd : dateI b p = true
    · rw [if_pos cd, if_pos cd]; exact hput 4 (p + 10)
    · rw [if_neg cd, if_neg cd]; exact hput 3 _
  rw [if_neg c4, if_neg c4]
  by_cases c34 : bt b p = 34
  · rw [if_pos c34, if_pos c34]
    unfold quoP
    rw [Nat.add_assoc (a.size + 1) p 1, h.runB2 (Q := qB) _ (p + 1) (by omega) rfl, h.two, h.cut2]
    obtain ⟨q, hq⟩ : ∃ q, q = runB b qB (p + 1) := ⟨_, rfl⟩
    rw [← hq]
    have e : (a.size + 1 + q < s.size) ↔ (q < b.size) := by omega
    simp only [e]
    by_cases c : q < b.size ∧ bt b (q : Nat) ≠ 10
    · rw [if_pos c, if_pos c]
      refine ⟨rfl, fun _ => ⟨by simp only; omega, ?_, by simp⟩⟩
      simp [shT]
      omega
    · rw [if_neg c, if_neg c]; exact ⟨rfl, fun x => absurd x (by simp)⟩
  rw [if_neg c34, if_neg c34]
  by_cases c35 : bt b p = 35
  · rw [if_pos c35, if_pos c35]
    unfold remP
    rw [Nat.add_assoc (a.size + 1) p 1, h.runB2 (Q := nB) _ (p + 1) (by omega) rfl, h.cut2]
    exact ⟨rfl, fun _ => ⟨rfl, by simp, by simp⟩⟩
  rw [if_neg c35, if_neg c35]
  unfold marP
  rw [h.find2 p]
  rcases findM b p marksL with _ | m
  · exact ⟨rfl, fun x => absurd x (by simp)⟩
  · refine ⟨rfl, fun _ => ⟨by simp only; omega, ?_, by simp⟩⟩
    simp [shT]
    omega
theorem Glue.scan2 (d : Nat) : ∀ (p : Nat) (T T0 : List Tk) (R R0 : List ByteArray), p ≤ b.size → b.size - p ≤ d →
    ((scanF b p T0 R0).2.2.1 = 0 → ∃ dT dR, (scanF b p T0 R0).1 = T0 ++ dT ∧ (scanF b p T0 R0).2.1 = R0 ++ dR ∧ (scanF s (a.size + 1 + p) T R).2.2.1 = 0 ∧ (scanF s (a.size + 1 + p) T R).1 = T ++ dT.map (shT (a.size + 1)) ∧ (scanF s (a.size + 1 + p) T R).2.1 = R ++ dR) ∧
    ((scanF b p T0 R0).2.2.1 ≠ 0 → (scanF s (a.size + 1 + p) T R).2.2.1 ≠ 0 ∧ (scanF s (a.size + 1 + p) T R).1 = []) := by
  have hs := h.size
  have hend : ∀ (p : Nat) (T T0 : List Tk) (R R0 : List ByteArray), ¬ p < b.size → p ≤ b.size → ((scanF b p T0 R0).2.2.1 = 0 → ∃ dT dR, (scanF b p T0 R0).1 = T0 ++ dT ∧ (scanF b p T0 R0).2.1 = R0 ++ dR ∧ (scanF s (a.size + 1 + p) T R).2.2.1 = 0 ∧ (scanF s (a.size + 1 + p) T R).1 = T ++ dT.map (shT (a.size + 1)) ∧ (scanF s (a.size + 1 + p) T R).2.1 = R ++ dR) ∧
    ((scanF b p T0 R0).2.2.1 ≠ 0 → (scanF s (a.size + 1 + p) T R).2.2.1 ≠ 0 ∧ (scanF s (a.size + 1 + p) T R).1 = []) := fun p T T0 R R0 h1 h2 => by
    rw [scanF_end h1, scanF_end (p := a.size + 1 + p) (by omega)]
    exact ⟨fun _ => ⟨[], [], by simp, by simp, rfl, by simp, by simp⟩, fun x => absurd rfl x⟩
  induction d with
  | zero =>
    intro p T T0 R R0 hp hd
    exact hend p T T0 R R0 (by omega) hp
  | succ d IH =>
    intro p T T0 R R0 hp hd
    by_cases hlt : p < b.size
    · obtain ⟨n1, n2⟩ := h.nex2 p T R hlt
      have ha := nexP_app b p T0 R0
      rcases hr : (nexP b p [] []).1 with _ | _
      · have hr0 : (nexP b p T0 R0).1 = false := by rw [ha]; exact hr
        have hrs : (nexP s (a.size + 1 + p) T R).1 = false := by rw [n1]; exact hr
        have hne := (nexP_adv T0 R0 hlt).2 hr0
        have hne2 := (nexP_adv (s := s) (p := a.size + 1 + p) T R (by omega)).2 hrs
        rw [scanF_no hlt hr0, scanF_no (p := a.size + 1 + p) (by omega) hrs]
        exact ⟨fun x => absurd x hne, fun _ => ⟨hne2, rfl⟩⟩
      · have hr0 : (nexP b p T0 R0).1 = true := by rw [ha]; exact hr
        have hrs : (nexP s (a.size + 1 + p) T R).1 = true := by rw [n1]; exact hr
        obtain ⟨m1, m2, m3⟩ := n2 hr
        have hav := (nexP_adv T0 R0 hlt).1 hr0
        rw [scanF_go hlt hr0, scanF_go (p := a.size + 1 + p) (by omega) hrs, m1, m2, m3]
        have e1 : (nexP b p T0 R0).2.1 = (nexP b p [] []).2.1 := by rw [ha]
        have e2 : (nexP b p T0 R0).2.2.1 = T0 ++ (nexP b p [] []).2.2.1 := by rw [ha]
        have e3 : (nexP b p T0 R0).2.2.2.1 = R0 ++ (nexP b p [] []).2.2.2.1 := by rw [ha]
        rw [e1] at hav ⊢
        rw [e2, e3]
        obtain ⟨i1, i2⟩ := IH (nexP b p [] []).2.1 (T ++ (nexP b p [] []).2.2.1.map (shT (a.size + 1))) (T0 ++ (nexP b p [] []).2.2.1) (R ++ (nexP b p [] []).2.2.2.1) (R0 ++ (nexP b p [] []).2.2.2.1) hav.2.1 (by omega)
        refine ⟨fun x => ?_, i2⟩
        obtain ⟨dT, dR, f1, f2, f3, f4, f5⟩ := i1 x
        exact ⟨(nexP b p [] []).2.2.1 ++ dT, (nexP b p [] []).2.2.2.1 ++ dR, by rw [f1]; simp, by rw [f2]; simp, f3, by rw [f4]; simp, by rw [f5]; simp⟩
    · exact hend p T T0 R R0 hlt hp
end
end Go.Proofs.Ytmjneidcdaapdaa.P
