/- LexerStands, plainly: each token stands at its place, between them are blanks and remarks. -/
import Derived.Test.YtmjneidcdaapdaaLexV
import Derived.Test.YtmjneidcdaapdaaPx3
namespace Go.Proofs.Ytmjneidcdaapdaa.Pure
open Go.RowKit Go.Proofs.Ytmjneidcdaapdaa.P Go.Proofs.YtmjneidcdaapdaaW.PrintWords Go.Proofs.YtmjneidcdaapdaaW.PrintLast
theorem works_ok : lexpriorlaw04_works.f = some true := by kernel_rfl
theorem wr64 {x : Int} (h0 : -9223372036854775808 ≤ x) (h1 : x ≤ 9223372036854775807) : wrap64 x = x := by unfold wrap64; omega
theorem sc64 (n : Nat) (h : n ≤ 1000000) : wrap64 ((n : Int) + 1) = ((n + 1 : Nat) : Int) := (wr64 (by omega) (by omega)).trans (by omega)
theorem pq_w (p q : Nat) (h : p ≤ q) (hq : q ≤ 1000000) : wrap64 ((p : Int) + ((q - p : Nat) : Int)) = (q : Int) := (wr64 (by omega) (by omega)).trans (by omega)
theorem text_f (t : Tk) (h : SelfT t) (k : Nat) (hk : 1 ≤ k) : lexer_Text.f k t.f0 t.f1 t.f2 = some (rawT t, 0) := by
  obtain ⟨k, rfl⟩ : ∃ m, k = m + 1 := ⟨k - 1, by omega⟩
  unfold lexer_Text.f
  unfold SelfT at h
  unfold rawT
  by_cases h5 : t.f0 = 5
  · rw [if_pos h5] at h ⊢
    obtain ⟨h1, h2⟩ := h
    rw [if_neg (by omega)]
    have hc : strings_ContainsAny.f t.f1 (⟨#[34, 10]⟩ : ByteArray) = some false := by
      unfold strings_ContainsAny.f
      rw [if_pos ⟨rfl, by omega⟩, h2]
    rw [hc, if_pos h5]
    have z1 : ((⟨#[34]⟩ : ByteArray) ++ t.f1).size = 1 + t.f1.size := by simp [ByteArray.size_append]; rfl
    simp only [Option.bind_some, lexer_Text.j0, z1]
    rw [if_neg (by simp), if_pos (by omega), if_pos (by omega)]
  · rw [if_neg h5] at h ⊢
    rw [if_neg h5]
    unfold lexer_Tokens.f
    simp only [Option.bind_some, h, if_true]
    rw [if_pos (by rfl), if_pos (by simp)]
    have e : rd_T76 [(⟨t.f0, t.f1, 0⟩ : Tk)] 0 = ⟨t.f0, t.f1, 0⟩ := rfl
    rw [e]
    simp
/-- The blanks' machine: none: a byte that is none; else is a remark open? -/
def bStep (c : Int) (f : Bool) : Option Bool := if c = 10 then some false else if c = 35 then some true else if f = true ∨ c = 9 ∨ c = 13 ∨ c = 32 then some f else none
def bSt (s : ByteArray) (e : Nat) : Nat → Option Bool
  | 0 => some false
  | n + 1 => (bSt s e n).bind (bStep (bt s ((e + n : Nat) : Int)))
theorem bSt_lt {s : ByteArray} {e n m : Nat} (h : n ≤ m) (hm : (bSt s e m).isSome = true) : (bSt s e n).isSome = true := by
  induction m with
  | zero =>
    obtain rfl : n = 0 := by omega
    exact hm
  | succ m IH =>
    by_cases e1 : n = m + 1
    · rw [e1]; exact hm
    · refine IH (by omega) ?_
      simp only [bSt] at hm
      cases h2 : bSt s e m with
      | none => rw [h2] at hm; cases hm
      | some x => rfl
theorem blank_l0 (s : ByteArray) (e q : Nat) (heq : e ≤ q) (hq : q ≤ s.size) (hs : s.size ≤ 65536) (hok : (bSt s e (q - e)).isSome = true) (d : Nat) : ∀ (k i : Nat) (f : Bool), i ≤ q - e → q - e - i = d → d + 1 ≤ k → bSt s e i = some f → lexpriorlaw04_blank.l0 k (s.extract e q) f i = some true := by
  have hz : (s.extract e q).size = q - e := by simp; omega
  induction d with
  | zero =>
    intro k i f hi hd hk hf
    obtain ⟨k, rfl⟩ : ∃ m, k = m + 1 := ⟨k - 1, by omega⟩
    simp only [lexpriorlaw04_blank.l0, hz]
    rw [if_neg (by omega)]
  | succ d IH =>
    intro k i f hi hd hk hf
    obtain ⟨k, rfl⟩ : ∃ m, k = m + 1 := ⟨k - 1, by omega⟩
    have hb := (piece s e q heq hq).1.at_ i (by omega)
    have hok1 := bSt_lt (s := s) (e := e) (n := i + 1) (m := q - e) (by omega) hok
    have hst : bSt s e (i + 1) = bStep (bt s ((e + i : Nat) : Int)) f := by simp only [bSt, hf, Option.bind_some]
    rw [hst] at hok1
    simp only [lexpriorlaw04_blank.l0, hz, sc64 i (by omega), hb]
    rw [if_pos (by omega), if_pos (by omega)]
    obtain ⟨c, hc⟩ : ∃ c, c = bt s ((e + i : Nat) : Int) := ⟨_, rfl⟩
    rw [← hc] at hst hok1 ⊢
    unfold bStep at hst hok1
    by_cases c10 : c = 10
    · rw [if_pos c10] at hst ⊢
      exact IH k (i + 1) false (by omega) (by omega) (by omega) hst
    rw [if_neg c10] at hst hok1 ⊢
    by_cases c35 : c = 35
    · rw [if_pos c35] at hst ⊢
      exact IH k (i + 1) true (by omega) (by omega) (by omega) hst
    rw [if_neg c35] at hst hok1 ⊢
    by_cases cf : f = true ∨ c = 9 ∨ c = 13 ∨ c = 32
    · rw [if_pos cf] at hst
      have ih := IH k (i + 1) f (by omega) (by omega) (by omega) hst
      by_cases f1 : f = true
      · rw [if_pos f1]; exact ih
      rw [if_neg f1]
      by_cases c9 : c = 9
      · rw [if_pos c9]; exact ih
      rw [if_neg c9]
      by_cases c13 : c = 13
      · rw [if_pos c13]; exact ih
      rw [if_neg c13]
      by_cases c32 : c = 32
      · rw [if_pos c32]; exact ih
      · exact absurd cf (by simp [f1, c9, c13, c32])
    · rw [if_neg cf] at hok1; cases hok1
theorem blank_f' (s : ByteArray) (e q : Nat) (heq : e ≤ q) (hq : q ≤ s.size) (hs : s.size ≤ 65536) (hok : (bSt s e (q - e)).isSome = true) (k : Nat) (hk : 65537 ≤ k) : lexpriorlaw04_blank.f k (s.extract e q) = some true := by
  unfold lexpriorlaw04_blank.f
  exact blank_l0 s e q heq hq hs hok (q - e) k 0 false (Nat.zero_le _) (by omega) (by omega) rfl
theorem cls1 {c : Int} (h : clsI c = 1) : c = 9 ∨ c = 10 ∨ c = 13 ∨ c = 32 := by
  unfold clsI at h
  repeat (first | omega | split at h)
theorem rem_run (s : ByteArray) (e p : Nat) (he : e ≤ p) (n : Nat) : (bSt s e (p + 1 - e) = some true) → (∀ j : Nat, p + 1 ≤ j → j < p + 1 + n → bt s j ≠ 10) → bSt s e (p + 1 + n - e) = some true := by
  induction n with
  | zero => intro h _; simpa using h
  | succ n IH =>
    intro h hj
    have ih := IH h (fun j h1 h2 => hj j h1 (by omega))
    rw [show p + 1 + (n + 1) - e = (p + 1 + n - e) + 1 by omega]
    simp only [bSt, ih, Option.bind_some]
    have := hj (p + 1 + n) (by omega) (by omega)
    rw [show e + (p + 1 + n - e) = p + 1 + n by omega]
    unfold bStep
    rw [if_neg this]
    split
    · rfl
    · rw [if_pos (Or.inl rfl)]
theorem scanF_pre (s : ByteArray) (d : Nat) : ∀ (p : Nat) (T : List Tk) (R : List ByteArray), s.size - p ≤ d → (scanF s p T R).2.2.1 = 0 → ∃ dT, (scanF s p T R).1 = T ++ dT := by
  induction d with
  | zero =>
    intro p T R hd _
    rw [scanF_end (by omega)]
    exact ⟨[], by simp⟩
  | succ d IH =>
    intro p T R hd h
    by_cases hlt : p < s.size
    · rcases hr : (nexP s p T R).1 with _ | _
      · rw [scanF_no hlt hr] at h
        exact absurd h ((nexP_adv T R hlt).2 hr)
      · have hav := (nexP_adv T R hlt).1 hr
        rw [scanF_go hlt hr] at h ⊢
        obtain ⟨dT, e⟩ := IH _ _ _ (by omega) h
        have : ∃ x, (nexP s p T R).2.2.1 = T ++ x := by
          unfold nexP wordP numP quoP remP marP putP
          repeat' split
          all_goals first | exact ⟨_, rfl⟩ | exact ⟨[], by simp⟩
        obtain ⟨x, ex⟩ := this
        exact ⟨x ++ dT, by rw [e, ex]; simp⟩
    · rw [scanF_end hlt]
      exact ⟨[], by simp⟩
theorem stands_l0 (s : ByteArray) (hs : s.size ≤ 65536) (L : List Tk) (d : Nat) : ∀ (k p : Nat) (T : List Tk) (R : List ByteArray) (e : Nat) (f : Bool), p ≤ s.size → s.size - p ≤ d → T.length ≤ p → (scanF s p T R).2.2.1 = 0 → (scanF s p T R).1 = L → e ≤ p → bSt s e (p - e) = some f → (f = true → p = s.size ∨ bt s p = 10) → d + 65540 ≤ k →
    lexpriorlaw04_LexerStands.l0 k s L s.size e T.length = some true := by
  have fin : ∀ (k p : Nat) (T : List Tk) (R : List ByteArray) (e : Nat) (f : Bool), p = s.size → T = L → e ≤ p → bSt s e (p - e) = some f → 65540 ≤ k → lexpriorlaw04_LexerStands.l0 k s L s.size e T.length = some true := fun k p T R e f hp hT he hf hk => by
    obtain ⟨k, rfl⟩ : ∃ m, k = m + 1 := ⟨k - 1, by omega⟩
    subst hT
    subst hp
    have hbl := blank_f' s e s.size he (Nat.le_refl _) hs (by rw [hf]; rfl) k (by omega)
    simp only [lexpriorlaw04_LexerStands.l0]
    rw [if_neg (Int.lt_irrefl _), if_pos (by omega), if_pos (by omega)]
    simp only [Int.toNat_natCast, hbl, Option.bind_some, if_true]
    simp
  induction d with
  | zero =>
    intro k p T R e f hp hd hT h0 hL he hf hfl hk
    rw [scanF_end (by omega)] at hL
    exact fin k p T R e f (by omega) hL he hf (by omega)
  | succ d IH =>
    intro k p T R e f hp hd hT h0 hL he hf hfl hk
    by_cases hlt : p < s.size
    · rcases hr : (nexP s p T R).1 with _ | _
      · rw [scanF_no hlt hr] at h0
        exact absurd h0 ((nexP_adv T R hlt).2 hr)
      · have hstep := step_k hlt hs hr
        rw [scanF_go hlt hr] at h0 hL
        generalize nexP s p T R = r at hstep h0 hL
        cases hstep with
        | blank h1 =>
          refine IH k (p + 1) T R e (if bt s p = 10 then false else f) (by omega) (by omega) (by omega) h0 hL (by omega) ?_ ?_ (by omega)
          · rw [show p + 1 - e = (p - e) + 1 by omega]
            simp only [bSt, hf, Option.bind_some]
            rw [show e + (p - e) = p by omega]
            unfold bStep
            rcases cls1 h1 with c | c | c | c <;> rw [c] <;> simp
          · intro hx
            by_cases c10 : bt s p = 10
            · rw [if_pos c10] at hx; cases hx
            · rw [if_neg c10] at hx
              rcases hfl hx with y | y
              · omega
              · exact absurd y c10
        | rem h35 =>
          obtain ⟨a, b, c, dd⟩ := runB_spec s nB (p := p + 1) (by omega)
          obtain ⟨q, hq⟩ : ∃ q, q = runB s nB (p + 1) := ⟨_, rfl⟩
          simp only [← hq] at a b c dd h0 hL
          refine IH k q T _ e true b (by omega) (by omega) h0 hL (by omega) ?_ ?_ (by omega)
          · have h1 : bSt s e (p + 1 - e) = some true := by
              rw [show p + 1 - e = (p - e) + 1 by omega]
              simp only [bSt, hf, Option.bind_some]
              rw [show e + (p - e) = p by omega, h35]
              rfl
            have := rem_run s e p he (q - (p + 1)) h1 (fun j j1 j2 => by
              have := c j j1 (by omega)
              unfold nB at this
              simpa using this)
            rwa [show p + 1 + (q - (p + 1)) = q by omega] at this
          · intro _
            by_cases hqs : q = s.size
            · exact .inl hqs
            · have := dd (by omega)
              unfold nB at this
              exact .inr (by simpa using this)
        | tok t q hpq hqs ht hraw hself =>
          obtain ⟨dT, hdT⟩ := scanF_pre s s.size q (T ++ [t]) R (by omega) h0
          rw [hL] at hdT
          have hLi : T.length < L.length := by
            rw [hdT]
            first | (simp; done) | (simp; omega)
          have hrd : rd_T76 L (T.length : Int) = t := by
            unfold rd_T76
            rw [Int.toNat_natCast, hdT, List.getD_eq_getElem?_getD]
            simp
          have hrz : (rawT t).size = q - p := by rw [hraw]; simp; omega
          obtain ⟨k, rfl⟩ : ∃ m, k = m + 1 := ⟨k - 1, by omega⟩
          have hbl := blank_f' s e p he (by omega) hs (by rw [hf]; rfl) k (by omega)
          have ih := IH k q (T ++ [t]) R q false hqs (by omega) (by simp; omega) h0 hL (Nat.le_refl _) (by rw [Nat.sub_self]; rfl) (fun x => by cases x) (by omega)
          have hne : ¬ (rawT t).toList = ([] : List UInt8) := fun x => by
            rw [Lib.toList_data] at x
            have h3 := Lib.size_eq (rawT t)
            rw [x, hrz] at h3
            have h4 : q - p = 0 := h3
            omega
          have htx := text_f t hself k (by omega)
          rw [ht] at htx
          have c1 : (T.length : Int) < (L.length : Int) := by omega
          have c2 : (0 : Int) ≤ (T.length : Int) := by omega
          have c3 : ¬ (p : Int) < (e : Int) := by omega
          have c4 : ¬ (q : Int) > (s.size : Int) := by omega
          have c5 : (0 : Int) ≤ (p : Int) := by omega
          have c6 : (p : Int) ≤ (q : Int) := by omega
          have c7 : (q : Int) ≤ (s.size : Int) := by omega
          have c8 : (0 : Int) ≤ (e : Int) := by omega
          have c9 : (e : Int) ≤ (p : Int) := by omega
          have c10 : (p : Int) ≤ (s.size : Int) := by omega
          have hpq1 : p ≤ q := by omega
          have hqb : q ≤ 1000000 := by omega
          have hTb : T.length ≤ 1000000 := by omega
          have c11 := sc64 T.length hTb
          have ih2 : lexpriorlaw04_LexerStands.l0 k s L s.size q ((T.length + 1 : Nat) : Int) = some true := by
            rw [List.length_append, List.length_singleton] at ih
            exact ih
          have e1 := pq_w p q hpq1 hqb
          simp only [lexpriorlaw04_LexerStands.l0, hrd, ht, htx, Option.bind_some, if_true, hrz, e1, c11]
          rw [if_pos c1, if_pos c2, if_neg c3, if_neg c4, if_neg hne, if_pos c5, if_pos c6, if_pos c7]
          simp only [Int.toNat_natCast]
          rw [if_pos (by rw [hraw]), if_pos c8, if_pos c9, if_pos c10, hbl]
          simp only [Option.bind_some, if_true]
          exact ih2
    · rw [scanF_end hlt] at hL
      exact fin k p T R e f (by omega) hL he hf (by omega)
theorem scanF_pl (s : ByteArray) (d : Nat) : ∀ (p : Nat) (T : List Tk) (R : List ByteArray), p ≤ s.size → s.size - p ≤ d → ((scanF s p T R).2.2.1 = 0 → (scanF s p T R).2.2.2 = s.size) ∧ ((scanF s p T R).2.2.1 ≠ 0 → (scanF s p T R).1 = [] ∧ 0 ≤ (scanF s p T R).2.2.2 ∧ (scanF s p T R).2.2.2 ≤ s.size) := by
  induction d with
  | zero =>
    intro p T R hp hd
    rw [scanF_end (by omega)]
    exact ⟨fun _ => rfl, fun x => absurd rfl x⟩
  | succ d IH =>
    intro p T R hp hd
    by_cases hlt : p < s.size
    · rcases hr : (nexP s p T R).1 with _ | _
      · rw [scanF_no hlt hr]
        refine ⟨fun x => absurd x ((nexP_adv T R hlt).2 hr), fun _ => ⟨rfl, ?_⟩⟩
        have h1 := runI_le s gN (p := p) (by omega)
        have h2 := runI_le s gV (p := p) (by omega)
        have h3 := numQ_le s (p := p) (by omega)
        have h4 : 0 ≤ (nexP s p T R).2.2.2.2.2 ∧ (nexP s p T R).2.2.2.2.2 ≤ s.size := by
          unfold nexP wordP numP quoP remP marP putP
          repeat' split
          all_goals (first | (simp only; omega) | (rename_i hx; simp only; omega))
        exact h4
      · have hav := (nexP_adv T R hlt).1 hr
        rw [scanF_go hlt hr]
        exact IH _ _ _ hav.2.1 (by omega)
    · rw [scanF_end hlt]
      exact ⟨fun _ => rfl, fun x => absurd rfl x⟩
theorem LexerStands : lexpriorlaw04_LexerStands.Pure := by
  intro s hs
  refine ⟨200000, ?_⟩
  unfold lexpriorlaw04_LexerStands.f lexer_Tokens.f
  rw [works_ok]
  simp only [Option.bind_some, if_true]
  by_cases hbig : 65536 < s.size
  · have : scanP s = ([], [], 5, 0) := by unfold scanP; rw [if_pos hbig]
    rw [this]
    rw [if_neg (by decide), if_pos (by decide), if_pos (by simp only; omega)]
    rfl
  · have ps : scanP s = scanF s 0 [] [] := by unfold scanP; rw [if_neg hbig]
    obtain ⟨h1, h2⟩ := scanF_pl s s.size 0 [] [] (by omega) (by omega)
    rw [← ps] at h1 h2
    by_cases e : (scanP s).2.2.1 = 0
    · rw [if_pos e, h1 e]
      have := stands_l0 s (by omega) (scanP s).1 s.size 200000 0 [] [] 0 false (by omega) (by omega) (by simp) (by rw [← ps]; exact e) (by rw [← ps]) (Nat.le_refl _) rfl (fun x => by cases x) (by omega)
      exact this
    · obtain ⟨h3, h4, h5⟩ := h2 e
      rw [if_neg e, if_pos h4, if_pos h5, h3]
      rfl
end Go.Proofs.Ytmjneidcdaapdaa.Pure
