/- The lexer's scanner: dates and numbers, quotes, remarks. -/
import Derived.Test.YtmjneidcdaapdaaLex2
import Derived.Lib.IndexAny
namespace Go.Proofs.Ytmjneidcdaapdaa.P
open Go.RowKit Go.Proofs.YtmjneidcdaapdaaW.PrintWords Go.Proofs.YtmjneidcdaapdaaW.PrintLast Go.Proofs.YtmjneidcdaapdaaW.PrintMore
set_option linter.unusedVariables false
set_option linter.unusedSimpArgs false

/-! ### plain -/
/-- From a place on, all bytes of a sort. -/
def runN' (s : ByteArray) (Q : Int → Bool) : Nat → Nat → Nat
  | 0, p => p
  | n + 1, p => if Q (bt s p) = true then runN' s Q n (p + 1) else p
def runB (s : ByteArray) (Q : Int → Bool) (p : Nat) : Nat := runN' s Q (s.size - p) p
theorem runN'_spec (s : ByteArray) (Q : Int → Bool) : ∀ (n p : Nat), p ≤ runN' s Q n p ∧ runN' s Q n p ≤ p + n ∧ (∀ j : Nat, p ≤ j → j < runN' s Q n p → Q (bt s j) = true) ∧ (runN' s Q n p < p + n → Q (bt s (runN' s Q n p)) = false)
  | 0, p => ⟨Nat.le_refl _, Nat.le_refl _, fun j h1 h2 => absurd h2 (by simp only [runN']; omega), fun h => absurd h (by simp only [runN']; omega)⟩
  | n + 1, p => by
    simp only [runN']
    by_cases h : Q (bt s p) = true
    · rw [if_pos h]
      obtain ⟨a, b, c, d⟩ := runN'_spec s Q n (p + 1)
      refine ⟨by omega, by omega, fun j h1 h2 => ?_, fun h1 => d (by omega)⟩
      by_cases e : j = p
      · rw [e]; exact h
      · exact c j (by omega) h2
    · rw [if_neg h]
      exact ⟨Nat.le_refl _, by omega, fun j h1 h2 => absurd h2 (by omega), fun _ => by simpa using h⟩
theorem runB_spec (s : ByteArray) (Q : Int → Bool) {p : Nat} (h : p ≤ s.size) : p ≤ runB s Q p ∧ runB s Q p ≤ s.size ∧ (∀ j : Nat, p ≤ j → j < runB s Q p → Q (bt s j) = true) ∧ (runB s Q p < s.size → Q (bt s (runB s Q p)) = false) := by
  obtain ⟨a, b, c, d⟩ := runN'_spec s Q (s.size - p) p
  unfold runB
  exact ⟨a, by omega, c, fun h1 => d (by omega)⟩
theorem cut_at {s : ByteArray} {p j : Nat} {b : UInt8} (h : (s.extract p s.size).data.toList[j]? = some b) : p + j < s.size ∧ bt s ((p + j : Nat) : Int) = b.toNat := by
  obtain ⟨hl, e⟩ := List.getElem?_eq_some_iff.1 h
  have hlt : p + j < s.size := by simp at hl; have := Lib.size_eq s; omega
  refine ⟨hlt, ?_⟩
  rw [bt_get s (p + j) hlt, ← e]
  simp
  rfl
theorem cut_get {s : ByteArray} {p j : Nat} (h : p + j < s.size) : (s.extract p s.size).data.toList[j]? = some (s[p + j]'h) := by
  have h1 := Lib.data_getElem? (s.extract p s.size) j (by simp; omega)
  rw [h1]
  congr 1
  simp [ByteArray.getElem_extract]
theorem idxAny (s : ByteArray) (Q : Int → Bool) (chars : List UInt8) (hQ : ∀ b : UInt8, Q b.toNat = !(chars.contains b)) {p : Nat} (hp : p ≤ s.size) :
    Lib.indexAny (s.extract p s.size).data.toList chars = if runB s Q p < s.size then ((runB s Q p - p : Nat) : Int) else -1 := by
  obtain ⟨a, b, c, d⟩ := runB_spec s Q hp
  have hno : ∀ i, p + i ≤ runB s Q p → Lib.NoAny (s.extract p s.size).data.toList chars i := fun i hi j b hj hb => by
    obtain ⟨h1, h2⟩ := cut_at hb
    have h3 := c (p + j) (by omega) (by omega)
    rw [h2, hQ] at h3
    simpa using h3
  by_cases hlt : runB s Q p < s.size
  · rw [if_pos hlt]
    obtain ⟨q, hq⟩ : ∃ q, runB s Q p = p + q := ⟨runB s Q p - p, by omega⟩
    have hg := cut_get (s := s) (p := p) (j := q) (by omega)
    have hd := d hlt
    rw [hq, bt_get s (p + q) (by omega), hQ] at hd
    rw [Lib.indexAny_hit (hno q (by omega)) hg (by simpa using hd), hq]
    congr 1
    omega
  · rw [if_neg hlt]
    refine Lib.indexAny_none (hno _ ?_)
    simp
    have := Lib.size_eq s
    omega
def qB (c : Int) : Bool := c != 34 && c != 10
def nB (c : Int) : Bool := c != 10
theorem u8_ne (b c : UInt8) (n : Int) (h : (c.toNat : Int) = n) : ((b.toNat : Int) != n) = (b != c) := by
  rw [← h]
  by_cases e : b = c
  · subst e; simp
  · have : b.toNat ≠ c.toNat := fun h => e (UInt8.toNat.inj h)
    have h1 : ((b.toNat : Int) != (c.toNat : Int)) = true := by simp; omega
    rw [h1]; simp [e]
theorem qB_ok (b : UInt8) : qB b.toNat = !(qN.data.toList.contains b) := by
  unfold qB
  rw [u8_ne b 34 34 rfl, u8_ne b 10 10 rfl]
  simp [qN, bne]
  rfl
theorem nB_ok (b : UInt8) : nB b.toNat = !([(10 : UInt8)].contains b) := by
  unfold nB
  rw [u8_ne b 10 10 rfl]
  simp [bne]
  rfl
def numQ (s : ByteArray) (p : Nat) : Nat := if (runI s gD p + 1 < s.size ∧ bt s (runI s gD p : Nat) = 46) ∧ clsI (bt s ((runI s gD p + 1 : Nat) : Int)) = 4 then runI s gD (runI s gD p + 1) else runI s gD p
def numP (s : ByteArray) (p : Nat) (T : List Tk) (R : List ByteArray) : Rs := if dateI s p = true then putP s p 4 (p + 10) T R else putP s p 3 (numQ s p) T R
def quoP (s : ByteArray) (p : Nat) (T : List Tk) (R : List ByteArray) : Rs :=
  if runB s qB (p + 1) < s.size ∧ bt s (runB s qB (p + 1) : Nat) ≠ 10 then (true, runB s qB (p + 1) + 1, T ++ [⟨5, s.extract (p + 1) (runB s qB (p + 1)), p⟩], R, 0, 0) else (false, p, T, R, 42, p)
def remP (s : ByteArray) (p : Nat) (T : List Tk) (R : List ByteArray) : Rs := (true, runB s nB (p + 1), T, R ++ [s.extract (p + 1) (runB s nB (p + 1))], 0, 0)
/-! ### walks -/
theorem quiet_d0 {P : Program} {f : FuncId} {args : Array Value} {w : World} {n : Nat} {v : Value} (h : Calls P f args (w.drewN n) fun e w' => e = .returned v ∧ Drawn0 (w.drewN n) w') :
    Calls P f args (w.drewN n) fun e w'' => e = .returned v ∧ ∃ m, w'' = w.drewN m :=
  h.mono fun _ _ ⟨he, ⟨m, hm⟩⟩ => ⟨he, n + m, by rw [hm, World.drewN_drewN]⟩
end Go.Proofs.Ytmjneidcdaapdaa.P
