/- The lexer, plainly: the document's walk over a whole text is the scanner's. -/
import Derived.Test.YtmjneidcdaapdaaLexQ
namespace Go.Proofs.Ytmjneidcdaapdaa.P
open Go.RowKit Go.Proofs.YtmjneidcdaapdaaW.PrintWords Go.Proofs.YtmjneidcdaapdaaW.PrintLast
set_option linter.unusedVariables false
set_option linter.unusedSimpArgs false

def Agree (s : ByteArray) (p : Nat) (T : List Tk) (R : List ByteArray) (o : On) (r : Rs) : Prop :=
  (o.2.2.1 = 0 → ∃ q : Nat, o.2.1 = q ∧ p < q ∧ q ≤ s.size ∧ (o.1 = 5 → p + 2 ≤ q) ∧ r = (true, q, T ++ [⟨o.1, if o.1 = 5 then s.extract (p + 1) (q - 1) else s.extract p q, p⟩], R, 0, 0)) ∧ (o.2.2.1 ≠ 0 → r.1 = false ∧ r.2.2.2.2.1 = o.2.2.1 ∧ r.2.2.2.2.2 = o.2.2.2)
theorem agree_put {s : ByteArray} {p q : Nat} {k : Int} {T : List Tk} {R : List ByteArray} (h1 : p < q) (h2 : q ≤ s.size) (hk : k ≠ 5) (h32 : ¬ ((k = 1 ∨ k = 2) ∧ 32 < q - p)) : Agree s p T R (endP s p k q) (putP s p k q T R) := by
  unfold endP putP
  rw [if_neg h32]
  by_cases h : q < s.size ∧ gV (clsI (bt s q)) = true
  · rw [if_pos h, if_pos h]
    exact ⟨fun x => absurd x (by simp), fun _ => ⟨rfl, rfl, rfl⟩⟩
  · rw [if_neg h, if_neg h]
    refine ⟨fun _ => ⟨q, rfl, h1, h2, fun x => absurd x hk, ?_⟩, fun x => absurd rfl x⟩
    simp only
    rw [if_neg hk]
theorem agree_word {s : ByteArray} {p : Nat} {k : Int} {G : Int → Bool} {T : List Tk} {R : List ByteArray} (hp : p < s.size) (hg : G (clsI (bt s p)) = true) (hk : k = 1 ∨ k = 2) : Agree s p T R (endP s p k (runI s G p)) (wordP s p k G T R) := by
  have hr := runI_gt (G := G) hp hg
  unfold wordP
  by_cases h : 32 < runI s G p - p
  · rw [if_pos h]
    unfold endP
    rw [if_pos ⟨hk, h⟩]
    exact ⟨fun x => absurd x (by simp), fun _ => ⟨rfl, rfl, rfl⟩⟩
  · rw [if_neg h]
    exact agree_put hr.1 hr.2 (by omega) (fun x => h x.2)
theorem date_cls {s : ByteArray} {p : Nat} (h : dateI s p = true) : clsI (bt s p) = 4 ∧ p + 10 ≤ s.size := by
  unfold dateI at h
  simp only [Bool.and_eq_true, decide_eq_true_eq] at h
  obtain ⟨h1, h2⟩ := h
  simp only [dFrom, Bool.and_eq_true] at h2
  have := h2.1
  unfold dOk at this
  rw [if_neg (by omega)] at this
  exact ⟨by simpa using this, h1⟩
theorem agree_one {s : ByteArray} {p : Nat} (T : List Tk) (R : List ByteArray) (hp : p < s.size) (h1 : clsI (bt s p) ≠ 1) (h35 : bt s p ≠ 35) : Agree s p T R (oneP s p) (nexP s p T R) := by
  unfold oneP nexP
  rw [if_neg h1]
  by_cases hd : dateI s p = true
  · obtain ⟨h4, h10⟩ := date_cls hd
    rw [if_pos hd, if_neg (by omega), if_neg (by omega), if_pos h4]
    unfold numP
    rw [if_pos hd]
    exact agree_put (by omega) h10 (by decide) (by omega)
  rw [if_neg hd]
  by_cases h4 : clsI (bt s p) = 4
  · rw [if_pos h4, if_neg (by omega), if_neg (by omega), if_pos h4]
    unfold numP
    rw [if_neg hd]
    have hr := runI_gt (G := gD) hp (by rw [h4]; rfl)
    have e : numQ' s (runI s gD p) = numQ s p := rfl
    rw [e]
    refine agree_put ?_ (numQ_le s (by omega)).2 (by decide) (by omega)
    unfold numQ
    split
    · have := runI_le s gD (p := runI s gD p + 1) (by omega)
      omega
    · exact hr.1
  rw [if_neg h4]
  by_cases h2 : clsI (bt s p) = 2
  · rw [if_pos h2, if_pos h2]
    exact agree_word hp (by rw [h2]; rfl) (.inl rfl)
  rw [if_neg h2, if_neg h2]
  by_cases h3 : clsI (bt s p) = 3
  · rw [if_pos h3, if_pos h3]
    exact agree_word hp (by rw [h3]; rfl) (.inr rfl)
  rw [if_neg h3, if_neg h3, if_neg h4]
  by_cases h34 : bt s p = 34
  · rw [if_pos h34, if_pos h34]
    unfold quoR quoP
    have hb := runB_spec s qB (p := p + 1) (by omega)
    by_cases h : runB s qB (p + 1) < s.size ∧ bt s (runB s qB (p + 1) : Nat) ≠ 10
    · rw [if_pos h, if_pos h]
      refine ⟨fun _ => ⟨runB s qB (p + 1) + 1, rfl, by omega, by omega, fun _ => by omega, ?_⟩, fun x => absurd rfl x⟩
      rfl
    · rw [if_neg h, if_neg h]
      exact ⟨fun x => absurd x (by simp), fun _ => ⟨rfl, rfl, rfl⟩⟩
  rw [if_neg h34, if_neg h34, if_neg h35]
  unfold marR marP
  rcases hm : findM s p marksL with _ | m
  · exact ⟨fun x => absurd x (by simp), fun _ => ⟨rfl, rfl, rfl⟩⟩
  · obtain ⟨hm1, hm2⟩ := findM_mem hm
    have h3 := marks_sz m hm1
    have h4 := begB_le (by omega) hm2
    refine ⟨fun _ => ⟨p + m.size, rfl, by omega, h4, fun x => absurd x (by simp), ?_⟩, fun x => absurd rfl x⟩
    simp only
    rw [if_neg (by decide), ← beg_ext (by omega) hm2]
theorem rem_l1 (s : ByteArray) (p : Nat) (T : List Tk) (R : List ByteArray) (hs : s.size ≤ 65536) (hR : R.length ≤ 65536) (K : Nat) (res : Lx) (d : Nat) : ∀ (k q : Nat), p + 1 ≤ q → q ≤ s.size → s.size - q = d → (∀ k', K ≤ k' → lexpriorref04_Walk.l0 k' s T (R ++ [s.extract (p + 1) (runB s nB q)]) (runB s nB q : Nat) = some res) → K + d + 1 ≤ k →
    lexpriorref04_Walk.l1 k s T R p q = some res := by
  induction d with
  | zero =>
    intro k q h1 h2 hd hK hk
    obtain ⟨k, rfl⟩ : ∃ m, k = m + 1 := ⟨k - 1, by omega⟩
    have := hK k (by omega)
    rw [runB_end (by omega)] at this
    simp only [lexpriorref04_Walk.l1, sc64 p (by omega)]
    rw [if_neg (by omega), if_pos (by omega), if_pos (by omega), if_pos (by omega), if_pos (by omega)]
    simpa using this
  | succ d IH =>
    intro k q h1 h2 hd hK hk
    obtain ⟨k, rfl⟩ : ∃ m, k = m + 1 := ⟨k - 1, by omega⟩
    simp only [lexpriorref04_Walk.l1, sc64 p (by omega), sc64 q (by omega)]
    rw [if_pos (by omega), if_pos (by omega)]
    by_cases h10 : bt s q = 10
    · have hq : nB (bt s q) = false := by rw [h10]; rfl
      have := hK k (by omega)
      rw [runB_no hq] at this
      rw [if_pos h10, if_pos (by omega), if_pos (by omega), if_pos (by omega), if_pos (by omega)]
      simpa using this
    · have hq : nB (bt s q) = true := by unfold nB; simp [h10]
      rw [if_neg h10]
      rw [runB_yes (by omega) hq] at hK
      exact IH k (q + 1) (by omega) (by omega) (by omega) hK (by omega)
set_option maxRecDepth 100000 in
theorem walk_l0 (s : ByteArray) (hs : s.size ≤ 65536) (d : Nat) : ∀ (k p : Nat) (T : List Tk) (R : List ByteArray), p ≤ s.size → s.size - p ≤ d → T.length ≤ p → R.length ≤ p → 200000 + (d + 1) * 70000 ≤ k →
    lexpriorref04_Walk.l0 k s T R p = some (scanF s p T R) := by
  induction d with
  | zero =>
    intro k p T R hp hd hT hR hk
    obtain ⟨k, rfl⟩ : ∃ m, k = m + 1 := ⟨k - 1, by omega⟩
    simp only [lexpriorref04_Walk.l0]
    rw [if_neg (by omega), scanF_end (by omega)]
  | succ d IH =>
    intro k p T R hp hd hT hR hk
    obtain ⟨k, rfl⟩ : ∃ m, k = m + 1 := ⟨k - 1, by omega⟩
    by_cases hlt : p < s.size
    · have hk2 : 200000 + (d + 1) * 70000 + 70000 ≤ k + 1 := by rw [Nat.add_assoc, ← Nat.succ_mul]; exact hk
      have hk3 : 200000 + (d + 1) * 70000 ≤ k := Nat.le_trans (Nat.le_add_right _ 69999) (Nat.le_of_succ_le_succ hk2)
      have hk4 : 200000 ≤ k := Nat.le_trans (Nat.le_add_right _ _) hk3
      simp only [lexpriorref04_Walk.l0, blank_f, Option.bind_some, one_f s p hlt hs k hk4, sc64 p (by omega)]
      rw [if_pos (by omega), if_pos (by omega)]
      by_cases h1 : clsI (bt s p) = 1
      · rw [if_pos (by rw [h1]; rfl)]
        have hn : nexP s p T R = (true, p + 1, T, R, 0, 0) := by unfold nexP; rw [if_pos h1]
        rw [scanF_go hlt (by rw [hn]), hn]
        exact IH k (p + 1) T R (by omega) (by omega) (by omega) (by omega) hk3
      rw [if_neg (by simpa using h1)]
      by_cases h35 : bt s p = 35
      · rw [if_pos h35]
        have hc : clsI (bt s p) = 0 := by rw [h35]; rfl
        have hn : nexP s p T R = remP s p T R := by
          unfold nexP
          rw [if_neg h1, if_neg (by omega), if_neg (by omega), if_neg (by omega), if_neg (by rw [h35]; decide), if_pos h35]
        rw [scanF_go hlt (by rw [hn]; rfl), hn]
        have hb := runB_spec s nB (p := p + 1) (by omega)
        have hnb : nB (bt s p) = true := by rw [h35]; rfl
        obtain ⟨k, rfl⟩ : ∃ m, k = m + 1 := ⟨k - 1, by omega⟩
        simp only [lexpriorref04_Walk.l1, sc64 p (by omega)]
        rw [if_pos (by omega), if_pos (by omega), if_neg (by rw [h35]; decide)]
        unfold remP
        refine rem_l1 s p T R hs (by omega) (200000 + (d + 1) * 70000) _ (s.size - (p + 1)) k (p + 1) (Nat.le_refl _) (by omega) rfl ?_ (by omega)
        intro k' hk'
        exact IH k' (runB s nB (p + 1)) T _ hb.2.1 (by omega) (by omega) (by simp; omega) hk'
      rw [if_neg h35]
      obtain ⟨ha, hb⟩ := agree_one T R hlt h1 h35
      obtain ⟨o, ho⟩ : ∃ o, o = oneP s p := ⟨_, rfl⟩
      rw [← ho] at ha hb ⊢
      by_cases he : o.2.2.1 = 0
      · obtain ⟨q, hq, h2, h3, h4, h5⟩ := ha he
        clear ha hb
        rw [if_pos he, hq, if_pos (by omega), if_pos (by omega), scanF_go hlt (by rw [h5]), h5]
        have b4 : T.length < 4398046511104 := by omega
        have x1 : s.size - q ≤ d := by omega
        have x2 : ∀ (z : Tk), (T ++ [z]).length ≤ q := fun z => by simp; omega
        have x3 : R.length ≤ q := by omega
        have e2 : wrap64 ((q : Int) - 1) = ((q - 1 : Nat) : Int) := (wr64 (by omega) (by omega)).trans (by omega)
        by_cases hk5 : o.1 = 5
        · have h45 := h4 hk5
          have b1 : (0 : Int) ≤ ((p + 1 : Nat) : Int) := Int.natCast_nonneg _
          have b2 : ((p + 1 : Nat) : Int) ≤ ((q - 1 : Nat) : Int) := Int.ofNat_le.2 (by omega)
          have b3 : ((q - 1 : Nat) : Int) ≤ (s.size : Int) := Int.ofNat_le.2 (by omega)
          rw [if_pos hk5, if_pos b1, e2, if_pos b2, if_pos b3, if_pos b4]
          simp only [hk5, if_true, Int.toNat_natCast]
          exact IH k q _ R h3 x1 (x2 _) x3 hk3
        · rw [if_neg hk5, if_pos b4]
          simp only [if_neg hk5, Int.toNat_natCast]
          exact IH k q _ R h3 x1 (x2 _) x3 hk3
      · obtain ⟨h2, h3, h4⟩ := hb he
        rw [if_neg he, scanF_no hlt h2, h3, h4]
    · simp only [lexpriorref04_Walk.l0]
      rw [if_neg (by omega), scanF_end (by omega)]
theorem walk_f (s : ByteArray) (k : Nat) (hk : 5000000000 ≤ k) : lexpriorref04_Walk.f k s = some (scanP s) := by
  unfold lexpriorref04_Walk.f scanP
  by_cases h : 65536 < s.size
  · rw [if_pos (by omega), if_pos h]
  · rw [if_neg (by omega), if_neg h]
    exact walk_l0 s (by omega) 65536 k 0 [] [] (by omega) (by omega) (by simp) (by simp) (by omega)
theorem tokens_ref (s : ByteArray) (k : Nat) (hk : 5000000000 ≤ k) : lexpriorref04_Tokens.f k s = some ((scanP s).1, (scanP s).2.2.1, (scanP s).2.2.2) := by
  unfold lexpriorref04_Tokens.f
  rw [walk_f s k hk]
  rfl
end Go.Proofs.Ytmjneidcdaapdaa.P
