/- Digits, as plain functions. -/
import Derived.Test.YtpcaonkahhbgfaaWMore
import Derived.Lib.Hide
namespace Go.Proofs.Ytpcaonkahhbgfaa.P
open Go.RowKit Go.Proofs.YtpcaonkahhbgfaaW.PrintWords Go.Proofs.YtpcaonkahhbgfaaW.PrintLast

/-- a digit's number, and whether it is one -/
@[irreducible] def hv (c : Int) : Int × Bool :=
  if 48 ≤ c ∧ c ≤ 57 then (c - 48, true) else if 97 ≤ c ∧ c ≤ 102 then (c - 87, true) else if 65 ≤ c ∧ c ≤ 70 then (c - 55, true) else (0, false)
theorem hv_bd (c : Int) : 0 ≤ (hv c).1 ∧ (hv c).1 ≤ 15 := by
  unfold hv
  split
  · simp only; omega
  · split
    · simp only; omega
    · split
      · simp only; omega
      · simp only; omega
theorem hv_big (c : Int) (h : 128 ≤ c) : hv c = (0, false) := by
  unfold hv
  rw [if_neg (by omega), if_neg (by omega), if_neg (by omega)]
/-- the bytes of the first k digits -/
def uhStep (out : List Int) (k : Nat) (v : Int) : List Int := if k % 2 = 0 then out ++ [v * 16] else out.set (k / 2) (Go.bits .or .u8 (rd out (k / 2 : Nat)) v)
def uhOut (s : ByteArray) : Nat → List Int
  | 0 => []
  | k + 1 => uhStep (uhOut s k) k (hv (bt s k)).1
theorem uhOut_even (s : ByteArray) (k : Nat) (h : k % 2 = 0) : uhOut s (k + 1) = uhOut s k ++ [(hv (bt s k)).1 * 16] := by
  simp only [uhOut, uhStep, if_pos h]
theorem uhOut_odd (s : ByteArray) (k : Nat) (h : ¬ k % 2 = 0) : uhOut s (k + 1) = (uhOut s k).set (k / 2) (Go.bits .or .u8 (rd (uhOut s k) (k / 2 : Nat)) (hv (bt s k)).1) := by
  simp only [uhOut, uhStep, if_neg h]
theorem uhOut_len (s : ByteArray) (k : Nat) : (uhOut s k).length = (k + 1) / 2 := by
  induction k with
  | zero => rfl
  | succ k ih =>
    simp only [uhOut, uhStep]
    split
    · simp only [List.length_append, List.length_cons, List.length_nil, ih]; omega
    · simp only [List.length_set, ih]; omega
def uhBad (s : ByteArray) : Option Nat := (List.range s.size).find? fun i => !(hv (bt s i)).2
def uh (s : ByteArray) : List Int × Int × Int :=
  match uhBad s with
  | some i => ([], 12, i)
  | none => if s.size % 2 = 1 then ([], 3, s.size) else (uhOut s s.size, 0, 0)
theorem find_range (p : Nat → Bool) : ∀ (n k : Nat), k < n → p k = true → (∀ j, j < k → p j = false) → (List.range n).find? p = some k := by
  intro n k hk hp hj
  rw [List.find?_eq_some_iff_append]
  refine ⟨hp, List.range k, (List.range (n - k - 1)).map (· + (k + 1)), ?_, fun a ha => by simp [hj a (List.mem_range.1 ha)]⟩
  apply List.ext_getElem
  · simp; omega
  · intro i h1 h2
    simp only [List.getElem_range]
    rcases Nat.lt_trichotomy i k with h | h | h
    · rw [List.getElem_append_left (by simpa using h)]; simp
    · subst h; rw [List.getElem_append_right (by simp)]; simp
    · rw [List.getElem_append_right (by simp; omega)]
      simp only [List.length_range]
      obtain ⟨d, rfl⟩ : ∃ d, i = k + 1 + d := ⟨i - k - 1, by omega⟩
      simp [show k + 1 + d - k = d + 1 from by omega]
      omega
theorem uhBad_some {s : ByteArray} {k : Nat} (hk : k < s.size) (hp : (hv (bt s k)).2 = false) (hj : ∀ j, j < k → (hv (bt s j)).2 = true) : uhBad s = some k :=
  find_range _ _ _ hk (by simp [hp]) (fun j h => by simp [hj j h])
theorem uhBad_none {s : ByteArray} (hj : ∀ j, j < s.size → (hv (bt s j)).2 = true) : uhBad s = none := by
  unfold uhBad
  rw [List.find?_eq_none]
  intro x hx
  simp [hj x (List.mem_range.1 hx)]
end Go.Proofs.Ytpcaonkahhbgfaa.P
