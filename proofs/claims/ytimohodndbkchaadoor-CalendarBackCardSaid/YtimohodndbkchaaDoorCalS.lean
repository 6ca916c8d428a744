/- The calendar's texts: printed by both sides the same, and read by both sides the same. -/
import Derived.Test.YtimohodndbkchaaDoorCalR
namespace Go.Proofs.YtimohodndbkchaaDoor.P
open Go.RowKit Go.Proofs.YtimohodndbkchaaDoorW.PrintWords Go.Proofs.YtimohodndbkchaaDoorW.PrintLast

def padL (n : Nat) : Nat → List UInt8
  | 0 => []
  | w + 1 => padL (n / 10) w ++ [UInt8.ofNat (48 + n % 10)]
theorem padL_zero (w : Nat) : padL 0 w = List.replicate w 48 := by
  induction w with
  | zero => rfl
  | succ w ih => rw [padL, show 0 / 10 = 0 from rfl, ih, List.replicate_succ']; rfl
theorem padL_length (w : Nat) : ∀ n, (padL n w).length = w := by
  induction w with
  | zero => intro n; rfl
  | succ w ih => intro n; rw [padL, List.length_append, ih]; rfl
theorem pad_dec (w : Nat) : ∀ n, n < 10 ^ (w + 1) → (Lib.decDigits n).length ≤ w + 1 ∧ List.replicate (w + 1 - (Lib.decDigits n).length) 48 ++ Lib.decDigits n = padL n (w + 1) := by
  induction w with
  | zero =>
    intro n h
    rw [Lib.decDigits_one (by omega)]
    refine ⟨Nat.le_refl _, ?_⟩
    rw [padL, show n % 10 = n from by omega]
    rfl
  | succ w ih =>
    intro n h
    by_cases g : n < 10
    · rw [Lib.decDigits_one g]
      refine ⟨by simp, ?_⟩
      rw [padL, show n / 10 = 0 from by omega, padL_zero, show n % 10 = n from by omega]
      rfl
    · have := ih (n / 10) (by rw [Nat.pow_succ] at h; omega)
      rw [Lib.decDigits, dif_neg g]
      refine ⟨by rw [List.length_append]; have := this.1; simp; omega, ?_⟩
      rw [padL, ← this.2, List.length_append, show w + 1 + 1 - ((Lib.decDigits (n / 10)).length + [UInt8.ofNat (48 + n % 10)].length) = w + 1 - (Lib.decDigits (n / 10)).length from by simp]
      rw [List.append_assoc]
theorem ba_append (a b : List UInt8) : (⟨a.toArray⟩ : ByteArray) ++ ⟨b.toArray⟩ = ⟨(a ++ b).toArray⟩ := by
  apply ByteArray.ext
  rw [ByteArray.data_append]
  simp
theorem ba_size (a : List UInt8) : (⟨a.toArray⟩ : ByteArray).size = a.length := by simp [ByteArray.size]
theorem padded_l (k w : Nat) (hw : w ≤ 100) : ∀ (n : Nat) (x : List UInt8), w - x.length = n → calendar_padded.l0 (k + n + 1) w ⟨x.toArray⟩ = some ⟨(List.replicate n 48 ++ x).toArray⟩ := by
  intro n
  induction n with
  | zero =>
    intro x h
    rw [calendar_padded.l0, ba_size, if_neg (by omega)]
    rfl
  | succ n ih =>
    intro x h
    rw [show k + (n + 1) + 1 = k + n + 1 + 1 from by omega, calendar_padded.l0, ba_size, if_pos (by omega), if_pos (by omega)]
    rw [show (⟨#[48]⟩ : ByteArray) = ⟨([48] : List UInt8).toArray⟩ from rfl, ba_append, ih _ (by simp; omega), List.replicate_succ']
    simp
theorem padded_f (k w n : Nat) (hw : w ≤ 10) (h : n < 10 ^ (w + 1)) : calendar_padded.f (k + 12) n (w + 1 : Nat) = some ⟨(padL n (w + 1)).toArray⟩ := by
  have hp : n < 9223372036854775808 := by
    have : (10 : Nat) ^ (w + 1) ≤ 10 ^ 11 := Nat.pow_le_pow_right (by decide) (by omega)
    omega
  unfold calendar_padded.f strconv_Itoa_41.f
  rw [if_pos ⟨by omega, by omega⟩, Int.toNat_natCast]
  simp only [Option.bind_some]
  have a := pad_dec w n h
  have b := padded_l (k + 12 - (w + 1 - (Lib.decDigits n).length) - 1) (w + 1) (by omega) (w + 1 - (Lib.decDigits n).length) (Lib.decDigits n) rfl
  rw [show k + 12 - (w + 1 - (Lib.decDigits n).length) - 1 + (w + 1 - (Lib.decDigits n).length) + 1 = k + 12 from by omega] at b
  rw [b, a.2]
end Go.Proofs.YtimohodndbkchaaDoor.P
