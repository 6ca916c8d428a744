/- Plain laws of sums and digits: what the printed functions of layer 1 tell. -/
import Derived.Test.YtccoeecladhfmaaWOct1
import Derived.Test.YtccoeecladhfmaaCrcN
namespace Go.Proofs.Ytccoeecladhfmaa.P
open Go.RowKit Go.Proofs.YtccoeecladhfmaaW.PrintWords Go.Proofs.YtccoeecladhfmaaW.PrintLast

/-! the reference's sum -/
theorem rsum_bit (x : Nat) (h : x < 2 ^ 32) : (if Int.tmod (x : Int) 2 = 1 then Go.bits .xor .u32 ((x : Int) / 2) 2197175160 else (x : Int) / 2) = (cN x : Nat) := by
  have hx : x < 4294967296 := h
  unfold cN
  rw [Int.tmod_eq_emod_of_nonneg (by omega)]
  by_cases hb : x % 2 = 1
  · rw [if_pos (by omega), if_pos hb, show (x : Int) / 2 = ((x / 2 : Nat) : Int) from by omega, u32_xor _ _ (by omega) (by omega) (by decide) (by decide)]
    rfl
  · rw [if_neg (by omega), if_neg hb]
    omega
theorem w_small (i : Nat) (h : i ≤ 140737488355328) : wrap64 ((i : Int) + 1) = ((i + 1 : Nat) : Int) := (w64 (by omega) (by omega)).trans (by omega)
theorem rsum_l1 (l : List Int) (i : Nat) (hi : i ≤ 140737488355328) (y : Nat) (hy : y < 2 ^ 32) (d : Nat) : ∀ (k j : Nat), j + d = 8 →
    lexpriorref01_Sum.l1 (k + d + 1) l ((cR j y : Nat) : Int) i j = lexpriorref01_Sum.l0 k l ((cR 8 y : Nat) : Int) ((i + 1 : Nat) : Int) := by
  induction d with
  | zero =>
    intro k j hj
    obtain rfl : j = 8 := by omega
    rw [Nat.add_zero, lexpriorref01_Sum.l1, if_neg (by omega), w_small i hi]
  | succ d ih =>
    intro k j hj
    rw [lexpriorref01_Sum.l1, if_pos (by omega), w_small j (by omega)]
    have e := rsum_bit (cR j y) (cR_lt j y hy)
    have e2 : cR (j + 1) y = cN (cR j y) := by rw [cR_add]; rfl
    have e3 := ih k (j + 1) (by omega)
    rw [e2] at e3
    rw [show k + (d + 1) = k + d + 1 from rfl, ← e3]
    by_cases hc : Int.tmod ((cR j y : Nat) : Int) 2 = 1
    · rw [if_pos hc] at e ⊢
      rw [e]
    · rw [if_neg hc] at e ⊢
      rw [e]
theorem rsum_l0 (l : List Int) (hb : Bytes l) (hl : l.length ≤ 140737488355328) (d : Nat) : ∀ (k i s : Nat), s < 2 ^ 32 → i ≤ l.length → l.length - i = d → 10 * d < k →
    lexpriorref01_Sum.l0 k l (s : Int) i = some (Go.bits .xor .u32 4294967295 ((l.drop i).foldl crcB (s : Int))) := by
  induction d with
  | zero =>
    intro k i s hs h1 h2 hk
    obtain ⟨k, rfl⟩ : ∃ m, k = m + 1 := ⟨k - 1, by omega⟩
    rw [lexpriorref01_Sum.l0, if_neg (by omega), List.drop_eq_nil_of_le (by omega)]
    rfl
  | succ d ih =>
    intro k i s hs h1 h2 hk
    obtain ⟨k, rfl⟩ : ∃ m, k = m + 10 := ⟨k - 10, by omega⟩
    have hlt : i < l.length := by omega
    obtain ⟨c0, c1⟩ := hb.rd_ i
    rw [lexpriorref01_Sum.l0, if_pos (by omega), if_pos (by omega), drop_rd l i hlt, List.foldl_cons]
    generalize rd l (i : Int) = c at c0 c1
    obtain ⟨c, rfl⟩ := Int.eq_ofNat_of_zero_le c0
    have hx : s ^^^ c < 2 ^ 32 := Nat.xor_lt_two_pow hs (by omega)
    have e1 : Go.bits .xor .u32 (s : Int) ((c : Int) % 4294967296) = ((s ^^^ c : Nat) : Int) := by
      have hs' : s < 4294967296 := hs
      rw [show (c : Int) % 4294967296 = c from by omega, u32_xor _ _ (by omega) (by omega) (by omega) (by omega), Int.toNat_natCast, Int.toNat_natCast]
    rw [e1, crcB_nat s c hs (by omega)]
    have h8 := rsum_l1 l i (by omega) (s ^^^ c) hx 8 k 0 (by omega)
    rw [show k + 8 + 1 = k + 9 from rfl] at h8
    have h9 := ih k (i + 1) (cR 8 (s ^^^ c)) (cR_lt 8 _ hx) (by omega) (by omega) (by omega)
    rw [h9] at h8
    exact h8
theorem rsum (l : List Int) (hb : Bytes l) (hl : l.length ≤ 140737488355328) : Ev (fun k => lexpriorref01_Sum.f k l) (crcL l) :=
  ⟨10 * l.length + 1, fun k hk => by
    show lexpriorref01_Sum.f k l = _
    unfold lexpriorref01_Sum.f crcL crcF
    exact rsum_l0 l hb hl l.length k 0 4294967295 (by decide) (by omega) (by omega) (by omega)⟩

/-! digits -/
/-! digits read -/
theorem bt_byte (s : ByteArray) (i : Int) : 0 ≤ bt s i ∧ bt s i ≤ 255 := bt_range s i
end Go.Proofs.Ytccoeecladhfmaa.P
