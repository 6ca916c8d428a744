/- The lexer, plainly: tokens joined, and told again. -/
import Derived.Test.YtmjneidcdaapdaaLexG
import Derived.Test.YtmjneidcdaapdaaLexW
namespace Go.Proofs.Ytmjneidcdaapdaa.P
open Go.RowKit Go.Proofs.YtmjneidcdaapdaaW.PrintWords Go.Proofs.YtmjneidcdaapdaaW.PrintLast
set_option linter.unusedVariables false
set_option linter.unusedSimpArgs false

theorem Gl32.nex1q {s a b : ByteArray} (h : Gl32 s a b) (p : Nat) (T : List Tk) (R : List ByteArray) (hp : p < a.size) (h34 : bt a p = 34) (hq : runB a qB (p + 1) < a.size) : nexP s p T R = nexP a p T R := by
  have hs := h.size
  obtain ⟨x1, x2, x3, x4⟩ := runB_spec a qB (p := p + 1) (by omega)
  have hr : runB s qB (p + 1) = runB a qB (p + 1) := by
    refine runB_uniq s qB x1 (by omega) (fun j j1 j2 => ?_) (fun _ => ?_)
    · rw [h.one j (by omega)]; exact x3 j j1 j2
    · rw [h.one _ hq]; exact x4 hq
  have hlt : runB a qB (p + 1) < s.size := by omega
  unfold nexP quoP
  rw [h.one p hp, h34, hr, h.one _ hq, h.cut1 _ _ x2]
  simp only [if_neg (show ¬ clsI 34 = 1 by decide), if_neg (show ¬ clsI 34 = 2 by decide), if_neg (show ¬ clsI 34 = 3 by decide), if_neg (show ¬ clsI 34 = 4 by decide), if_true, hq, hlt, true_and]
theorem quo_byte (f : ByteArray) : (((⟨#[34]⟩ : ByteArray) ++ f) ++ (⟨#[34]⟩ : ByteArray)).size = f.size + 2 ∧ bt (((⟨#[34]⟩ : ByteArray) ++ f) ++ (⟨#[34]⟩ : ByteArray)) (0 : Nat) = 34 ∧ bt (((⟨#[34]⟩ : ByteArray) ++ f) ++ (⟨#[34]⟩ : ByteArray)) ((f.size + 1 : Nat) : Int) = 34 ∧ (∀ i : Nat, i < f.size → bt (((⟨#[34]⟩ : ByteArray) ++ f) ++ (⟨#[34]⟩ : ByteArray)) ((1 + i : Nat) : Int) = bt f i) ∧ (((⟨#[34]⟩ : ByteArray) ++ f) ++ (⟨#[34]⟩ : ByteArray)).extract 1 (f.size + 1) = f := by
  have hl : (((⟨#[34]⟩ : ByteArray) ++ f) ++ (⟨#[34]⟩ : ByteArray)).data.toList = 34 :: (f.data.toList ++ [34]) := by simp
  have hf := Lib.size_eq f
  refine ⟨?_, ?_, ?_, fun i hi => ?_, ?_⟩
  · rw [Lib.size_eq, hl]; first | (simp; done) | (simp; omega)
  · rw [bt_list, hl]; rfl
  · rw [bt_list, hl, List.getD_eq_getElem?_getD, List.getElem?_cons_succ, hf, List.getElem?_append_right (Nat.le_refl _), Nat.sub_self]
    rfl
  · rw [bt_list, bt_list, hl, Nat.add_comm 1 i, List.getD_eq_getElem?_getD, List.getElem?_cons_succ, List.getElem?_append_left (by omega), List.getD_eq_getElem?_getD]
  · apply ba_ext
    rw [ByteArray.data_extract, Array.toList_extract, List.extract_eq_take_drop, hl, List.drop_succ_cons, List.drop_zero, show f.size + 1 - 1 = f.data.toList.length by omega]
    simp
/-- A token's text alone: one step. -/
theorem raw_one (t : Tk) (h : SelfN t) : 0 < (rawT t).size ∧ (rawT t).size ≤ 65538 ∧ nexP (rawT t) 0 [] [] = (true, (rawT t).size, [⟨t.f0, t.f1, 0⟩], [], 0, 0) := by
  unfold SelfN at h
  unfold rawT
  by_cases h5 : t.f0 = 5
  · rw [if_pos h5] at h ⊢
    obtain ⟨z, b0, bq, bi, ex⟩ := quo_byte t.f1
    obtain ⟨a, ha⟩ : ∃ a, a = ((⟨#[34]⟩ : ByteArray) ++ t.f1) ++ (⟨#[34]⟩ : ByteArray) := ⟨_, rfl⟩
    rw [← ha] at z b0 bq bi ex ⊢
    refine ⟨by omega, by omega, ?_⟩
    have hr : runB a qB (0 + 1) = t.f1.size + 1 := by
      refine runB_uniq a qB (by omega) (by omega) (fun j j1 j2 => ?_) (fun _ => ?_)
      · have := bi (j - 1) (by omega)
        rw [show 1 + (j - 1) = j by omega] at this
        rw [this]
        exact h.2.2 _ (by omega)
      · rw [bq]; rfl
    unfold nexP quoP
    rw [b0, hr, bq, ex]
    rw [if_neg (by decide), if_neg (by decide), if_neg (by decide), if_neg (by decide), if_pos rfl, if_pos ⟨by omega, by decide⟩, h5, z]
    rfl
  · rw [if_neg h5] at h ⊢
    exact ⟨h.1, by omega, h.2.2⟩
theorem raw_glue {s b : ByteArray} (t : Tk) (h : SelfN t) (hg : Gl32 s (rawT t) b) : nexP s 0 [] [] = (true, (rawT t).size, [⟨t.f0, t.f1, 0⟩], [], 0, 0) := by
  obtain ⟨h0, _, h1⟩ := raw_one t h
  rw [← h1]
  by_cases h34 : bt (rawT t) (0 : Nat) = 34
  · refine hg.nex1q 0 [] [] h0 h34 ?_
    have hn := h1
    unfold nexP at hn
    rw [h34, if_neg (by decide), if_neg (by decide), if_neg (by decide), if_neg (by decide), if_pos rfl] at hn
    unfold quoP at hn
    split at hn
    · next c => exact c.1
    · cases hn
  · refine hg.nex1 0 [] [] h0 h34 fun h35 => ?_
    have hn := h1
    unfold nexP at hn
    rw [h35, if_neg (by decide), if_neg (by decide), if_neg (by decide), if_neg (by decide), if_neg (by decide), if_pos rfl] at hn
    unfold remP at hn
    have := congrArg (fun x : Rs => x.2.2.1) hn
    simp at this
def tailB : List Tk → ByteArray
  | [] => ⟨#[]⟩
  | t :: l => ((⟨#[32]⟩ : ByteArray) ++ rawT t) ++ tailB l
def joinB : List Tk → ByteArray
  | [] => ⟨#[]⟩
  | t :: l => rawT t ++ tailB l
theorem join_cons (t u : Tk) (l : List Tk) : joinB (t :: u :: l) = (rawT t ++ (⟨#[32]⟩ : ByteArray)) ++ joinB (u :: l) := by
  apply ba_ext
  simp [joinB, tailB]
def keyT (t : Tk) : Int × ByteArray := (t.f0, t.f1)
theorem key_sh (c : Nat) (l : List Tk) : (l.map (shT c)).map keyT = l.map keyT := by simp [keyT, shT]
theorem join_scan : ∀ l : List Tk, (∀ t ∈ l, SelfN t) → (scanF (joinB l) 0 [] []).2.2.1 = 0 ∧ (scanF (joinB l) 0 [] []).1.map keyT = l.map keyT
  | [], _ => by
    rw [scanF_end (by decide)]
    exact ⟨rfl, rfl⟩
  | [t], h => by
    obtain ⟨h0, _, h1⟩ := raw_one t (h t List.mem_cons_self)
    have e : joinB [t] = rawT t := by apply ba_ext; simp [joinB, tailB]
    rw [e, scanF_go h0 (by rw [h1]), h1, scanF_end (Nat.lt_irrefl _)]
    exact ⟨rfl, rfl⟩
  | t :: u :: l, h => by
    obtain ⟨h0, _, h1⟩ := raw_one t (h t List.mem_cons_self)
    obtain ⟨i1, i2⟩ := join_scan (u :: l) (fun x hx => h x (List.mem_cons_of_mem _ hx))
    rw [join_cons]
    obtain ⟨b, hb⟩ : ∃ b, b = joinB (u :: l) := ⟨_, rfl⟩
    rw [← hb] at i1 i2 ⊢
    have hg := gl32 (rawT t) b
    obtain ⟨s, hs⟩ : ∃ s, s = (rawT t ++ (⟨#[32]⟩ : ByteArray)) ++ b := ⟨_, rfl⟩
    rw [← hs] at hg ⊢
    have hz := hg.size
    have hn := raw_glue t (h t List.mem_cons_self) hg
    have hn2 : nexP s (rawT t).size [⟨t.f0, t.f1, 0⟩] [] = (true, (rawT t).size + 1, [⟨t.f0, t.f1, 0⟩], [], 0, 0) := by unfold nexP; rw [hg.mid]; rfl
    rw [scanF_go (by omega) (by rw [hn]), hn]
    simp only
    rw [scanF_go (p := (rawT t).size) (by omega) (by rw [hn2]), hn2]
    simp only
    obtain ⟨dT, dR, f1, f2, f3, f4, f5⟩ := (hg.scan2 b.size 0 [⟨t.f0, t.f1, 0⟩] [] [] [] (Nat.zero_le _) (by omega)).1 i1
    rw [Nat.add_zero] at f3 f4
    rw [f1] at i2
    refine ⟨f3, ?_⟩
    rw [f4, List.map_append, key_sh]
    rw [List.nil_append] at i2
    rw [i2]
    rfl
def wtT : List Tk → Nat
  | [] => 0
  | t :: l => (rawT t).size + 1 + wtT l
theorem wt_app (t : Tk) : ∀ T : List Tk, wtT (T ++ [t]) = wtT T + ((rawT t).size + 1)
  | [] => by simp [wtT]
  | u :: T => by simp only [List.cons_append, wtT]; rw [wt_app t T]; omega
theorem wt_len : ∀ l : List Tk, l.length ≤ wtT l
  | [] => Nat.le_refl _
  | t :: l => by have := wt_len l; simp only [List.length_cons, wtT]; omega
theorem tail_size : ∀ l : List Tk, (tailB l).size = wtT l
  | [] => rfl
  | t :: l => by
    have := tail_size l
    have z : ((⟨#[32]⟩ : ByteArray)).size = 1 := rfl
    simp only [tailB, wtT, ByteArray.size_append, z]
    omega
theorem join_size : ∀ l : List Tk, (joinB l).size ≤ wtT l
  | [] => Nat.le_refl _
  | t :: l => by
    have := tail_size l
    simp only [joinB, wtT, ByteArray.size_append]
    omega
theorem scan_inv (s : ByteArray) (hs : s.size ≤ 65536) (d : Nat) : ∀ (p : Nat) (T : List Tk) (R : List ByteArray), p ≤ s.size → s.size - p ≤ d → (scanF s p T R).2.2.1 = 0 → (∀ t ∈ T, SelfN t) → wtT T ≤ 2 * p → (∀ t ∈ (scanF s p T R).1, SelfN t) ∧ wtT (scanF s p T R).1 ≤ 2 * s.size := by
  induction d with
  | zero =>
    intro p T R hp hd _ hT hw
    rw [scanF_end (by omega)]
    exact ⟨hT, by simp only; omega⟩
  | succ d IH =>
    intro p T R hp hd h0 hT hw
    by_cases hlt : p < s.size
    · rcases hr : (nexP s p T R).1 with _ | _
      · rw [scanF_no hlt hr] at h0
        exact absurd h0 ((nexP_adv T R hlt).2 hr)
      · have hstep := step_n hlt hs hr
        rw [scanF_go hlt hr] at h0 ⊢
        generalize nexP s p T R = r at hstep h0
        cases hstep with
        | blank h1 => exact IH (p + 1) T R (by omega) (by omega) h0 hT (by omega)
        | rem h35 =>
          obtain ⟨a, b, c, dd⟩ := runB_spec s nB (p := p + 1) (by omega)
          obtain ⟨q, hq⟩ : ∃ q, q = runB s nB (p + 1) := ⟨_, rfl⟩
          simp only [← hq] at a b h0 ⊢
          exact IH q T _ b (by omega) h0 hT (by omega)
        | tok t q hpq hqs ht hraw hself =>
          have hrz : (rawT t).size = q - p := by rw [hraw]; simp; omega
          refine IH q (T ++ [t]) R hqs (by omega) h0 (fun x hx => ?_) (by rw [wt_app]; omega)
          rcases List.mem_append.1 hx with y | y
          · exact hT x y
          · rw [List.mem_singleton.1 y]; exact hself
    · rw [scanF_end hlt]
      exact ⟨hT, by simp only; omega⟩
end Go.Proofs.Ytmjneidcdaapdaa.P
