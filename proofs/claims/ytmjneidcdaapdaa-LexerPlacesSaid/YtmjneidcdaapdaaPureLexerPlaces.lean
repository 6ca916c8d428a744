/- LexerPlaces, plainly: both places are one. -/
import Derived.Test.YtmjneidcdaapdaaPx2
namespace Go.Proofs.Ytmjneidcdaapdaa.Pure
open Go.RowKit Go.Proofs.Ytmjneidcdaapdaa.P Go.Proofs.YtmjneidcdaapdaaW.PrintWords Go.Proofs.YtmjneidcdaapdaaW.PrintLast
theorem works_ok : lexpriorlaw04_works.f = some true := by kernel_rfl
theorem cnt_all : ∀ n : Fin 256, cntB ((n.val : Nat) : Int) = !decide (((n.val : Nat) : Int) / 64 = 2) := by decide +kernel
theorem cnt_ok {c : Int} (h0 : 0 ≤ c) (h1 : c ≤ 255) : cntB c = !decide (c / 64 = 2) := by
  have := cnt_all ⟨c.toNat, by omega⟩
  simp only at this
  rwa [Int.toNat_of_nonneg h0] at this
theorem w64 {x : Int} (h0 : -9223372036854775808 ≤ x) (h1 : x ≤ 9223372036854775807) : wrap64 x = x := by unfold wrap64; omega
theorem succ_w (n : Nat) (h : n ≤ 1000000000000000) : wrap64 ((n : Int) + 1) = ((n + 1 : Nat) : Int) := (w64 (by omega) (by omega)).trans (by omega)
theorem place_l0 (s : ByteArray) (p : Nat) (hp : p ≤ s.size) (hs : s.size ≤ 140737488351232) (d : Nat) : ∀ (k i : Nat), i ≤ p → p - i = d → d < k →
    lexpriorref04_Place.l0 k s p ((lnN s i + 1 : Nat) : Int) ((colN s (lbN s i) (i - lbN s i) + 1 : Nat) : Int) i = some (((lnN s p + 1 : Nat) : Int), ((colN s (lbN s p) (p - lbN s p) + 1 : Nat) : Int), (0 : Int)) := by
  induction d with
  | zero =>
    intro k i hi hd hk
    obtain ⟨k, rfl⟩ : ∃ m, k = m + 1 := ⟨k - 1, by omega⟩
    obtain rfl : i = p := by omega
    simp only [lexpriorref04_Place.l0]
    rw [if_neg (Int.lt_irrefl _)]
  | succ d IH =>
    intro k i hi hd hk
    obtain ⟨k, rfl⟩ : ∃ m, k = m + 1 := ⟨k - 1, by omega⟩
    have hib : i ≤ 140737488351232 := by omega
    have hil : (i : Int) < (p : Int) := by omega
    have his : (i : Int) < (s.size : Int) := by omega
    have sx : ∀ c, c ≤ i → wrap64 (((c + 1 : Nat) : Int) + 1) = ((c + 1 + 1 : Nat) : Int) := fun c hc => succ_w (c + 1) (by omega)
    have e1 := succ_w i (by omega)
    have h2 := lbN_le s i
    have a3 : i + 1 - lbN s i = (i - lbN s i) + 1 := by omega
    have a4 : lbN s i + (i - lbN s i) = i := by omega
    have e2 := sx (lnN s i) (lnN_le s i)
    have e3 := sx (colN s (lbN s i) (i - lbN s i)) (Nat.le_trans (colN_le _ _ _) (Nat.sub_le _ _))
    have hb := bt_bd s i
    have ih := IH k (i + 1) (by omega) (by omega) (by omega)
    simp only [lexpriorref04_Place.l0]
    rw [if_pos hil, if_pos (Int.natCast_nonneg i), if_pos his, e1, e2, e3]
    by_cases h10 : bt s i = 10
    · rw [if_pos h10]
      have a1 : lnN s (i + 1) = lnN s i + 1 := by rw [lnN, if_pos h10]
      have a2 : lbN s (i + 1) = i + 1 := by rw [lbN, if_pos h10]
      rw [a1, a2, Nat.sub_self] at ih
      exact ih
    · rw [if_neg h10]
      have a1 : lnN s (i + 1) = lnN s i := by rw [lnN, if_neg h10]
      have a2 : lbN s (i + 1) = lbN s i := by rw [lbN, if_neg h10]
      rw [a1, a2, a3] at ih
      have a5 : colN s (lbN s i) (i - lbN s i + 1) = if cntB (bt s i) = true then colN s (lbN s i) (i - lbN s i) + 1 else colN s (lbN s i) (i - lbN s i) := by rw [colN, a4]
      rw [cnt_ok hb.1 hb.2] at a5
      by_cases h64 : bt s i / 64 = 2
      · rw [if_pos h64]
        rw [if_neg (by simp [h64])] at a5
        rw [a5] at ih
        exact ih
      · rw [if_neg h64]
        rw [if_pos (by simp [h64])] at a5
        rw [a5] at ih
        exact ih
theorem place_ref (s : ByteArray) (i : Int) (hs : s.size ≤ 140737488351232) (k : Nat) (hk : s.size + 3 ≤ k) : lexpriorref04_Place.f k s i = some (plcP s i) := by
  obtain ⟨k, rfl⟩ : ∃ m, k = m + 1 := ⟨k - 1, by omega⟩
  unfold lexpriorref04_Place.f plcP
  by_cases h0 : i < 0
  · rw [if_pos h0, if_pos (Or.inl h0)]
    simp only [lexpriorref04_Place.j0, if_true]
  · rw [if_neg h0]
    simp only [lexpriorref04_Place.j0]
    by_cases h1 : (s.size : Int) < i
    · rw [if_pos (decide_eq_true h1), if_pos (Or.inr h1)]
    · rw [if_neg (by simp; omega), if_neg (by omega)]
      have := place_l0 s i.toNat (by omega) hs i.toNat k 0 (by omega) (by omega) (by omega)
      rw [Int.toNat_of_nonneg (by omega)] at this
      simpa [lnN, lbN, colN] using this
theorem LexerPlaces : lexpriorlaw04_LexerPlaces.Pure := by
  intro s i hs hi
  refine ⟨s.size + 3, ?_⟩
  unfold lexpriorlaw04_LexerPlaces.f lexer_Place.f
  rw [if_pos hs, place_ref s i hs _ (Nat.le_refl _), works_ok]
  simp only [Option.bind_some, if_true, lexpriorlaw04_num.f]
end Go.Proofs.Ytmjneidcdaapdaa.Pure
