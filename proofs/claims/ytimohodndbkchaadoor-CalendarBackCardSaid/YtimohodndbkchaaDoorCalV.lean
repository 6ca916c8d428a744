/- Reading what is printed. -/
import Derived.Test.YtimohodndbkchaaDoorCalU
namespace Go.Proofs.YtimohodndbkchaaDoor.P
open Go.RowKit Go.Proofs.YtimohodndbkchaaDoorW.PrintWords Go.Proofs.YtimohodndbkchaaDoorW.PrintLast

theorem bt_list (l : List UInt8) (i : Nat) (h : i < l.length) : bt ⟨l.toArray⟩ i = (l[i].toNat : Int) := by
  unfold bt
  simp only [Int.toNat_natCast]
  rw [dif_pos (show i < (⟨l.toArray⟩ : ByteArray).size by rw [ba_size]; exact h)]
  rfl
theorem ofNat_dig (n : Nat) : ((UInt8.ofNat (48 + n % 10)).toNat : Int) = 48 + (n : Int) % 10 := by
  rw [UInt8.toNat_ofNat']
  omega
theorem padL_four (n : Nat) : padL n 4 = [UInt8.ofNat (48 + n / 10 / 10 / 10 % 10), UInt8.ofNat (48 + n / 10 / 10 % 10), UInt8.ofNat (48 + n / 10 % 10), UInt8.ofNat (48 + n % 10)] := rfl
theorem padL_two (n : Nat) : padL n 2 = [UInt8.ofNat (48 + n / 10 % 10), UInt8.ofNat (48 + n % 10)] := rfl
theorem printL_eq (y m d : Int) : printL y m d = [UInt8.ofNat (48 + y.toNat / 10 / 10 / 10 % 10), UInt8.ofNat (48 + y.toNat / 10 / 10 % 10), UInt8.ofNat (48 + y.toNat / 10 % 10), UInt8.ofNat (48 + y.toNat % 10), 45, UInt8.ofNat (48 + m.toNat / 10 % 10), UInt8.ofNat (48 + m.toNat % 10), 45, UInt8.ofNat (48 + d.toNat / 10 % 10), UInt8.ofNat (48 + d.toNat % 10)] := rfl
theorem Parse_print (y m d : Int) (h : isD y m d) : calendar_Parse.f ⟨(printL y m d).toArray⟩ = some (ofI y m d, 0) := by
  obtain ⟨⟨y0, y1, m0, m1⟩, d0, d1⟩ := id h
  have dd := days_fits y m
  have b : ∀ i : Nat, ∀ h : i < 10, bt ⟨(printL y m d).toArray⟩ i = ((printL y m d)[i]'(by rw [printL_length]; exact h)).toNat := fun i h => bt_list _ i _
  have b0 : bt ⟨(printL y m d).toArray⟩ (0 : Nat) = 48 + ((y.toNat / 10 / 10 / 10 : Nat) : Int) % 10 := (b 0 (by omega)).trans (ofNat_dig _)
  have b1 : bt ⟨(printL y m d).toArray⟩ (1 : Nat) = 48 + ((y.toNat / 10 / 10 : Nat) : Int) % 10 := (b 1 (by omega)).trans (ofNat_dig _)
  have b2 : bt ⟨(printL y m d).toArray⟩ (2 : Nat) = 48 + ((y.toNat / 10 : Nat) : Int) % 10 := (b 2 (by omega)).trans (ofNat_dig _)
  have b3 : bt ⟨(printL y m d).toArray⟩ (3 : Nat) = 48 + ((y.toNat : Nat) : Int) % 10 := (b 3 (by omega)).trans (ofNat_dig _)
  have b4 : bt ⟨(printL y m d).toArray⟩ (4 : Nat) = 45 := (b 4 (by omega)).trans rfl
  have b5 : bt ⟨(printL y m d).toArray⟩ (5 : Nat) = 48 + ((m.toNat / 10 : Nat) : Int) % 10 := (b 5 (by omega)).trans (ofNat_dig _)
  have b6 : bt ⟨(printL y m d).toArray⟩ (6 : Nat) = 48 + ((m.toNat : Nat) : Int) % 10 := (b 6 (by omega)).trans (ofNat_dig _)
  have b7 : bt ⟨(printL y m d).toArray⟩ (7 : Nat) = 45 := (b 7 (by omega)).trans rfl
  have b8 : bt ⟨(printL y m d).toArray⟩ (8 : Nat) = 48 + ((d.toNat / 10 : Nat) : Int) % 10 := (b 8 (by omega)).trans (ofNat_dig _)
  have b9 : bt ⟨(printL y m d).toArray⟩ (9 : Nat) = 48 + ((d.toNat : Nat) : Int) % 10 := (b 9 (by omega)).trans (ofNat_dig _)
  have sz : (⟨(printL y m d).toArray⟩ : ByteArray).size = 10 := by rw [ba_size, printL_length]
  generalize (⟨(printL y m d).toArray⟩ : ByteArray) = s at *
  have ok : (List.range 10).all (okc s) = true := (okc_all s).2 ⟨b4, b7, fun u hu => by
      have : u = 0 ∨ u = 1 ∨ u = 2 ∨ u = 3 := by omega
      rcases this with rfl | rfl | rfl | rfl <;> (unfold isDig; simp only [Nat.zero_add]; omega), fun u hu => by
      have : u = 0 ∨ u = 1 := by omega
      rcases this with rfl | rfl <;> (unfold isDig; simp only [Nat.add_zero, Nat.reduceAdd]; omega), fun u hu => by
      have : u = 0 ∨ u = 1 := by omega
      rcases this with rfl | rfl <;> (unfold isDig; simp only [Nat.add_zero, Nat.reduceAdd]; omega)⟩
  have ey : numI s 0 4 = y := by
    simp only [numI, Nat.zero_add]
    omega
  have em : numI s 5 2 = m := by
    simp only [numI, Nat.add_zero, Nat.reduceAdd]
    omega
  have ed : numI s 8 2 = d := by
    simp only [numI, Nat.add_zero, Nat.reduceAdd]
    omega
  unfold calendar_Parse.f
  rw [if_pos ⟨sz, ok⟩, pst_num, ey, em, ed, Of_f, if_pos h]
end Go.Proofs.YtimohodndbkchaaDoor.P
