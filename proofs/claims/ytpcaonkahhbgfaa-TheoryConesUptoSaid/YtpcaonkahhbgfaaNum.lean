/- Numbers of 7 bits a byte, as plain functions on whole numbers. -/
import Derived.Test.YtpcaonkahhbgfaaWWords
import Derived.Test.YtpcaonkahhbgfaaWLast
import Derived.Lib.Hide
import Derived.Lib.SmallJoins
namespace Go.Proofs.Ytpcaonkahhbgfaa.P
open Go.RowKit Go.Proofs.YtpcaonkahhbgfaaW.PrintWords Go.Proofs.YtpcaonkahhbgfaaW.PrintLast

/-- whole numbers that are bytes -/
def Bytes (l : List Int) : Prop := ∀ x ∈ l, 0 ≤ x ∧ x ≤ 255
instance (l : List Int) : Decidable (Bytes l) := inferInstanceAs (Decidable (∀ x ∈ l, 0 ≤ x ∧ x ≤ 255))
theorem Bytes.rd_ {l : List Int} (h : Bytes l) (i : Int) : 0 ≤ rd l i ∧ rd l i ≤ 255 := by
  unfold rd
  rw [List.getD_eq_getElem?_getD]
  rcases h2 : l[i.toNat]? with _ | x
  · simp
  · exact h x (List.mem_of_getElem? h2)
theorem Bytes.drop {l : List Int} (h : Bytes l) (n : Nat) : Bytes (l.drop n) := fun x hx => h x (List.mem_of_mem_drop hx)
theorem Bytes.take {l : List Int} (h : Bytes l) (n : Nat) : Bytes (l.take n) := fun x hx => h x (List.mem_of_mem_take hx)
theorem Bytes.append {l m : List Int} (h : Bytes l) (k : Bytes m) : Bytes (l ++ m) := fun x hx => (List.mem_append.1 hx).elim (h x) (k x)
theorem drop_rd (l : List Int) (i : Nat) (h : i < l.length) : l.drop i = rd l i :: l.drop (i + 1) := by
  rw [List.drop_eq_getElem_cons h]
  simp [rd, List.getD_eq_getElem?_getD, List.getElem?_eq_getElem h]

/-- what stands from a byte on: the byte's place i, the number so far -/
def ruGo (at_ len : Int) : List Int → Nat → Int → Int × Int × Int
  | [], _, _ => (0, len, 8)
  | c :: l, i, n =>
    if i = 9 ∧ 1 < c then (0, at_, 11)
    else if 128 ≤ c then ruGo at_ len l (i + 1) (Go.bits .or .u64 n (IntKind.u64.wrap (Go.bits .and .u8 c 127 * 2 ^ (7 * i))))
    else if c = 0 ∧ 0 < i then (0, at_, 11)
    else (Go.bits .or .u64 n (IntKind.u64.wrap (c * 2 ^ (7 * i))), at_ + i + 1, 0)
def ru (b : List Int) (at_ : Int) : Int × Int × Int :=
  if at_ < 0 ∨ (b.length : Int) < at_ then (0, at_, 1) else ruGo at_ b.length (b.drop at_.toNat) 0 0
/-- a text behind its length -/
def rtOf (b : List Int) (r : Int × Int × Int) : Option (ByteArray × Int × Int) :=
  if r.2.2 = 0 then
    if 0 ≤ r.2.1 ∧ r.2.1 ≤ b.length ∧ 0 ≤ r.1 ∧ r.1 < 18446744073709551616 then
      if (b.length : Int) - r.2.1 < r.1 then some (⟨#[]⟩, b.length, 8)
      else some (strOfNums ((b.take (r.2.1 + r.1).toNat).drop r.2.1.toNat), r.2.1 + r.1, 0)
    else none
  else some (⟨#[]⟩, r.2.1, r.2.2)
end Go.Proofs.Ytpcaonkahhbgfaa.P
