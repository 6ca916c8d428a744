/- Plain laws of wire: copies of steps are the steps, and both checks tell the same. -/
import Derived.Test.YtccoeecladhfmaaWOct1
import Derived.Test.YtccoeecladhfmaaWireO
namespace Go.Proofs.Ytccoeecladhfmaa.P
open Go.RowKit Go.Proofs.YtccoeecladhfmaaW.PrintWords Go.Proofs.YtccoeecladhfmaaW.PrintLast

theorem rd54_lt {l : List S54} {i : Nat} (h : i < l.length) : rd_T54 l i = l[i] := by
  unfold rd_T54
  rw [Int.toNat_natCast, List.getD_eq_getElem?_getD, List.getElem?_eq_getElem h]
  rfl
theorem rd52_lt {l : List S52} {i : Nat} (h : i < l.length) : rd_T52 l i = l[i] := by
  unfold rd_T52
  rw [Int.toNat_natCast, List.getD_eq_getElem?_getD, List.getElem?_eq_getElem h]
  rfl
theorem copyC_l0 (l : List S54) (hl : l.length ≤ 8796093021952) (d : Nat) : ∀ (k i : Nat), i ≤ l.length → l.length - i = d → d < k →
    lexpriorplain_CopyChoices.l0 k l (l.take i) i = some l := by
  induction d with
  | zero =>
    intro k i h1 h2 hk
    obtain ⟨k, rfl⟩ : ∃ m, k = m + 1 := ⟨k - 1, by omega⟩
    obtain rfl : i = l.length := by omega
    simp only [lexpriorplain_CopyChoices.l0]
    rw [if_neg (by omega), List.take_length]
  | succ d ih =>
    intro k i h1 h2 hk
    obtain ⟨k, rfl⟩ : ∃ m, k = m + 1 := ⟨k - 1, by omega⟩
    have hlt : i < l.length := by omega
    have h := ih k (i + 1) (by omega) (by omega) (by omega)
    rw [List.take_succ_eq_append_getElem hlt] at h
    simp only [lexpriorplain_CopyChoices.l0]
    rw [if_pos (by omega), if_pos (by omega), if_pos (by rw [List.length_take]; omega), w64 (by omega) (by omega), rd54_lt hlt]
    exact h
theorem copyC (l : List S54) (hl : l.length ≤ 8796093021952) (k : Nat) (hk : l.length < k) : lexpriorplain_CopyChoices.f k l = some l := by
  unfold lexpriorplain_CopyChoices.f
  exact copyC_l0 l hl l.length k 0 (by omega) (by omega) (by omega)
theorem copyS_l0 (l : List S52) (hl : l.length ≤ 2513169434843) (hs : ∀ s ∈ l, s.f4.length ≤ 8796093021952) (d : Nat) : ∀ (k i : Nat), i ≤ l.length → l.length - i = d → d + 8796093021953 < k →
    lexpriorplain_CopySteps.l0 k l (l.take i) i = some l := by
  induction d with
  | zero =>
    intro k i h1 h2 hk
    obtain ⟨k, rfl⟩ : ∃ m, k = m + 1 := ⟨k - 1, by omega⟩
    obtain rfl : i = l.length := by omega
    simp only [lexpriorplain_CopySteps.l0]
    rw [if_neg (by omega), List.take_length]
  | succ d ih =>
    intro k i h1 h2 hk
    obtain ⟨k, rfl⟩ : ∃ m, k = m + 1 := ⟨k - 1, by omega⟩
    have hlt : i < l.length := by omega
    have h := ih k (i + 1) (by omega) (by omega) (by omega)
    rw [List.take_succ_eq_append_getElem hlt] at h
    have h4 := hs l[i] (List.getElem_mem hlt)
    simp only [lexpriorplain_CopySteps.l0, lexpriorplain_CopyStep.f]
    rw [if_pos (by omega), if_pos (by omega), rd52_lt hlt, copyC _ h4 k (by omega)]
    simp only [Option.bind_some]
    rw [if_pos (by rw [List.length_take]; omega), w64 (by omega) (by omega)]
    exact h
theorem WfSteps.len {l : List S52} (h : WfSteps l) : l.length ≤ 2513169434843 := by have := h.1; omega
theorem WfSteps.cho {l : List S52} (h : WfSteps l) : ∀ s ∈ l, s.f4.length ≤ 8796093021952 := fun s hs => by have := (h.2 s hs).2.2.2.2.1; omega
theorem copyS (l : List S52) (h : WfSteps l) : Ev (fun k => lexpriorplain_CopySteps.f k l) l :=
  ⟨l.length + 8796093021954, fun k hk => by
    unfold lexpriorplain_CopySteps.f
    exact copyS_l0 l h.len h.cho l.length k 0 (by omega) (by omega) (by omega)⟩
theorem sameC_l0 (l : List S54) (hl : l.length ≤ 8796093021952) (d : Nat) : ∀ (k i : Nat), i ≤ l.length → l.length - i = d → d < k →
    lexpriorplain_SameChoices.l0 k l l i = some true := by
  induction d with
  | zero =>
    intro k i h1 h2 hk
    obtain ⟨k, rfl⟩ : ∃ m, k = m + 1 := ⟨k - 1, by omega⟩
    simp only [lexpriorplain_SameChoices.l0]
    rw [if_neg (by omega)]
  | succ d ih =>
    intro k i h1 h2 hk
    obtain ⟨k, rfl⟩ : ∃ m, k = m + 1 := ⟨k - 1, by omega⟩
    have h := ih k (i + 1) (by omega) (by omega) (by omega)
    simp only [lexpriorplain_SameChoices.l0]
    rw [if_pos (by omega), if_pos (by omega), if_pos (by omega), if_neg (by simp), w64 (by omega) (by omega)]
    exact h
theorem sameC (l : List S54) (hl : l.length ≤ 8796093021952) (k : Nat) (hk : l.length < k) : lexpriorplain_SameChoices.f k l l = some true := by
  unfold lexpriorplain_SameChoices.f
  rw [if_pos rfl]
  exact sameC_l0 l hl l.length k 0 (by omega) (by omega) (by omega)
theorem sameS_l0 (l : List S52) (hl : l.length ≤ 2513169434843) (hs : ∀ s ∈ l, s.f4.length ≤ 8796093021952) (d : Nat) : ∀ (k i : Nat), i ≤ l.length → l.length - i = d → d + 8796093021953 < k →
    lexpriorplain_SameSteps.l0 k l l i = some true := by
  induction d with
  | zero =>
    intro k i h1 h2 hk
    obtain ⟨k, rfl⟩ : ∃ m, k = m + 1 := ⟨k - 1, by omega⟩
    simp only [lexpriorplain_SameSteps.l0]
    rw [if_neg (by omega)]
  | succ d ih =>
    intro k i h1 h2 hk
    obtain ⟨k, rfl⟩ : ∃ m, k = m + 1 := ⟨k - 1, by omega⟩
    have hlt : i < l.length := by omega
    have h := ih k (i + 1) (by omega) (by omega) (by omega)
    have h4 := hs l[i] (List.getElem_mem hlt)
    simp only [lexpriorplain_SameSteps.l0, lexpriorplain_SameStep.f]
    rw [if_pos (by omega), if_pos (by omega), if_pos (by omega), rd52_lt hlt, if_pos trivial, if_pos trivial, if_pos trivial, if_pos trivial, sameC _ h4 k (by omega)]
    simp only [Option.bind_some, if_true]
    rw [w64 (by omega) (by omega)]
    exact h
theorem sameS (l : List S52) (h : WfSteps l) : Ev (fun k => lexpriorplain_SameSteps.f k l l) true :=
  ⟨l.length + 8796093021954, fun k hk => by
    show lexpriorplain_SameSteps.f k l l = _
    unfold lexpriorplain_SameSteps.f
    rw [if_pos rfl]
    exact sameS_l0 l h.len h.cho l.length k 0 (by omega) (by omega) (by omega)⟩

/-! the check -/
def choOk (c : S54) : Bool := decide (-1 ≤ c.f0 ∧ c.f0 ≤ 15 ∧ -1 ≤ c.f1 ∧ c.f1 ≤ 4095)
def stpOk (s : S52) : Bool := decide (1 ≤ s.f0 ∧ s.f0 ≤ 4 ∧ 1 ≤ s.f2 ∧ s.f2 ≤ 5 ∧ 0 ≤ s.f1 ∧ s.f1 ≤ 4095 ∧ -1 ≤ s.f3 ∧ s.f3 ≤ 4095 ∧ s.f4.length ≤ 4096) && s.f4.all choOk
def chkL : List S52 → Int → Int × Int
  | [], i => (0, i)
  | s :: l, i => if stpOk s = true then chkL l (i + 1) else (201, i)
def chk (l : List S52) : Int × Int := if 65536 < l.length then (3, 0) else chkL l 0
theorem inside (a b c : Int) : wire_inside.f a b c = some (decide (b ≤ a ∧ a ≤ c)) := by
  unfold wire_inside.f
  by_cases h : a ≥ b
  · rw [if_pos h]; congr 1; exact decide_eq_decide.2 ⟨fun h2 => ⟨h, h2⟩, fun h2 => h2.2⟩
  · rw [if_neg h]; congr 1; exact (decide_eq_false (fun h2 => h h2.1)).symm
theorem right_l0 (l : List S54) (hl : l.length ≤ 4096) (d : Nat) : ∀ (k i : Nat), i ≤ l.length → l.length - i = d → d < k →
    wire_right.l0 k l (l.length : Int) i = some ((l.drop i).all choOk) := by
  induction d with
  | zero =>
    intro k i h1 h2 hk
    obtain ⟨k, rfl⟩ : ∃ m, k = m + 1 := ⟨k - 1, by omega⟩
    simp only [wire_right.l0]
    rw [if_neg (by omega), List.drop_eq_nil_of_le (by omega)]
    rfl
  | succ d ih =>
    intro k i h1 h2 hk
    obtain ⟨k, rfl⟩ : ∃ m, k = m + 1 := ⟨k - 1, by omega⟩
    have hlt : i < l.length := by omega
    have h := ih k (i + 1) (by omega) (by omega) (by omega)
    rw [List.drop_eq_getElem_cons hlt]
    simp only [wire_right.l0, inside, Option.bind_some, List.all_cons]
    rw [if_pos (by omega), if_pos (by omega), if_pos (by omega), rd54_lt hlt, w64 (by omega) (by omega)]
    rw [show ((i : Int) + 1) = ((i + 1 : Nat) : Int) from by omega, h]
    simp only [decide_eq_true_eq]
    unfold choOk
    by_cases a : -1 ≤ l[i].f0 ∧ l[i].f0 ≤ 15
    · rw [if_pos a]
      by_cases b : -1 ≤ l[i].f1 ∧ l[i].f1 ≤ 4095
      · rw [if_pos b, decide_eq_true (by omega)]; rfl
      · rw [if_neg b, decide_eq_false (by omega)]; rfl
    · rw [if_neg a, decide_eq_false (by omega)]; rfl
theorem right (s : S52) (k : Nat) (hk : 4100 < k) : wire_right.f k s.f0 s.f1 s.f2 s.f3 s.f4 = some (stpOk s) := by
  obtain ⟨k, rfl⟩ : ∃ m, k = m + 1 := ⟨k - 1, by omega⟩
  simp only [wire_right.f, wire_right.j0, inside, Option.bind_some, decide_eq_true_eq]
  unfold stpOk
  by_cases a : 1 ≤ s.f0 ∧ s.f0 ≤ 4
  · by_cases b : 1 ≤ s.f2 ∧ s.f2 ≤ 5
    · by_cases c : 0 ≤ s.f1 ∧ s.f1 ≤ 4095
      · by_cases d : -1 ≤ s.f3 ∧ s.f3 ≤ 4095
        · rw [if_pos a, if_pos b, if_pos c, if_pos d]
          by_cases e : s.f4.length ≤ 4096
          · rw [if_neg (by omega)]
            have h := right_l0 s.f4 e s.f4.length k 0 (by omega) (by omega) (by omega)
            rw [show ((0 : Nat) : Int) = 0 from rfl, List.drop_zero] at h
            rw [h, decide_eq_true (by omega)]
            rfl
          · rw [if_pos (by omega), decide_eq_false (by omega)]; rfl
        · rw [if_pos a, if_pos b, if_pos c, if_neg d, decide_eq_false (by omega)]; rfl
      · rw [if_pos a, if_pos b, if_neg c, decide_eq_false (by omega)]; rfl
    · rw [if_pos a, if_neg b, decide_eq_false (by omega)]; rfl
  · rw [if_neg a, decide_eq_false (by omega)]; rfl
theorem check_l0 (l : List S52) (hl : l.length ≤ 65536) (d : Nat) : ∀ (k i : Nat), i ≤ l.length → l.length - i = d → d + 4101 < k →
    wire_Check.l0 k l l (l.length : Int) i = some (chkL (l.drop i) i) := by
  induction d with
  | zero =>
    intro k i h1 h2 hk
    obtain ⟨k, rfl⟩ : ∃ m, k = m + 1 := ⟨k - 1, by omega⟩
    obtain rfl : i = l.length := by omega
    simp only [wire_Check.l0]
    rw [if_neg (by omega), List.drop_eq_nil_of_le (by omega)]
    rfl
  | succ d ih =>
    intro k i h1 h2 hk
    obtain ⟨k, rfl⟩ : ∃ m, k = m + 1 := ⟨k - 1, by omega⟩
    have hlt : i < l.length := by omega
    have h := ih k (i + 1) (by omega) (by omega) (by omega)
    rw [List.drop_eq_getElem_cons hlt]
    simp only [wire_Check.l0]
    rw [if_pos (by omega), if_pos (by omega), if_pos (by omega), rd52_lt hlt, right _ k (by omega), w64 (by omega) (by omega)]
    rw [show ((i : Int) + 1) = ((i + 1 : Nat) : Int) from by omega, h]
    simp only [Option.bind_some, chkL]
    by_cases e : stpOk l[i] = true
    · rw [if_pos e, if_pos e]; rfl
    · rw [if_neg e, if_neg e]
theorem check (l : List S52) (k : Nat) (hk : 69640 < k) : wire_Check.f k l = some (chk l) := by
  unfold wire_Check.f chk
  by_cases h : 65536 < l.length
  · rw [if_pos (by omega), if_pos h]
  · rw [if_neg (by omega), if_neg h]
    exact check_l0 l (by omega) l.length k 0 (by omega) (by omega) (by omega)
theorem choOk_iff (c : S54) : choOk c = true ↔ (-1 ≤ c.f0 ∧ c.f0 ≤ 15 ∧ -1 ≤ c.f1 ∧ c.f1 ≤ 4095) := by unfold choOk; exact decide_eq_true_iff
theorem stpOk_iff (s : S52) : stpOk s = true ↔ (1 ≤ s.f0 ∧ s.f0 ≤ 4 ∧ 1 ≤ s.f2 ∧ s.f2 ≤ 5 ∧ 0 ≤ s.f1 ∧ s.f1 ≤ 4095 ∧ -1 ≤ s.f3 ∧ s.f3 ≤ 4095 ∧ s.f4.length ≤ 4096) ∧ s.f4.all choOk = true := by unfold stpOk; rw [Bool.and_eq_true, decide_eq_true_iff]
theorem rcheck_l1 (x0 : List S52) (x4 : Int) (a b c e : Int) (l : List S54) (hl : l.length ≤ 4096) (K : Nat) (R : Int × Int) (hR : ∀ k, K ≤ k → lexpriorref21_Check.l0 k x0 (wrap64 (x4 + 1)) = some R) (d : Nat) :
    ∀ (k i : Nat), i ≤ l.length → l.length - i = d → K + d < k → lexpriorref21_Check.l1 k x0 x4 i a b c e l = some (if (l.drop i).all choOk = true then R else (201, x4)) := by
  induction d with
  | zero =>
    intro k i h1 h2 hk
    obtain ⟨k, rfl⟩ : ∃ m, k = m + 1 := ⟨k - 1, by omega⟩
    simp only [lexpriorref21_Check.l1]
    rw [if_neg (by omega), List.drop_eq_nil_of_le (by omega), hR k (by omega)]
    rfl
  | succ d ih =>
    intro k i h1 h2 hk
    obtain ⟨k, rfl⟩ : ∃ m, k = m + 1 := ⟨k - 1, by omega⟩
    have hlt : i < l.length := by omega
    have h := ih k (i + 1) (by omega) (by omega) (by omega)
    rw [List.drop_eq_getElem_cons hlt]
    simp only [lexpriorref21_Check.l1, List.all_cons, Bool.and_eq_true]
    rw [if_pos (by omega), if_pos (by omega), rd54_lt hlt, w64 (by omega) (by omega)]
    rw [show ((i : Int) + 1) = ((i + 1 : Nat) : Int) from by omega, h]
    by_cases a1 : l[i].f0 < -1
    · rw [if_pos a1, if_neg (fun h => by have := (choOk_iff _).1 h.1; omega)]
    · by_cases a2 : l[i].f0 ≥ 16
      · rw [if_neg a1, if_pos a2, if_neg (fun h => by have := (choOk_iff _).1 h.1; omega)]
      · by_cases a3 : l[i].f1 < -1
        · rw [if_neg a1, if_neg a2, if_pos a3, if_neg (fun h => by have := (choOk_iff _).1 h.1; omega)]
        · by_cases a4 : l[i].f1 ≥ 4096
          · rw [if_neg a1, if_neg a2, if_neg a3, if_pos a4, if_neg (fun h => by have := (choOk_iff _).1 h.1; omega)]
          · rw [if_neg a1, if_neg a2, if_neg a3, if_neg a4]
            congr 1
            by_cases z : (List.drop (i + 1) l).all choOk = true
            · rw [if_pos (by exact z), if_pos ⟨(choOk_iff _).2 (by omega), by exact z⟩]
            · rw [if_neg (by exact z), if_neg (fun h => z h.2)]
theorem rcheck_l0 (l : List S52) (hl : l.length ≤ 65536) (d : Nat) : ∀ (k i : Nat), i ≤ l.length → l.length - i = d → 4200 * d < k →
    lexpriorref21_Check.l0 k l i = some (chkL (l.drop i) i) := by
  induction d with
  | zero =>
    intro k i h1 h2 hk
    obtain ⟨k, rfl⟩ : ∃ m, k = m + 1 := ⟨k - 1, by omega⟩
    obtain rfl : i = l.length := by omega
    simp only [lexpriorref21_Check.l0]
    rw [if_neg (by omega), List.drop_eq_nil_of_le (by omega)]
    rfl
  | succ d ih =>
    intro k i h1 h2 hk
    obtain ⟨k, rfl⟩ : ∃ m, k = m + 2 := ⟨k - 2, by omega⟩
    have hlt : i < l.length := by omega
    have h : ∀ k', 4200 * d + 1 ≤ k' → lexpriorref21_Check.l0 k' l (wrap64 ((i : Int) + 1)) = some (chkL (l.drop (i + 1)) ((i + 1 : Nat) : Int)) := fun k' hk' => by
      rw [w64 (by omega) (by omega), show ((i : Int) + 1) = ((i + 1 : Nat) : Int) from by omega]
      exact ih k' (i + 1) (by omega) (by omega) (by omega)
    rw [List.drop_eq_getElem_cons hlt]
    simp only [lexpriorref21_Check.l0, lexpriorref21_Check.j1, chkL]
    rw [if_pos (by omega), if_pos (by omega), rd52_lt hlt]
    simp only [if_true, decide_eq_true_eq]
    by_cases a1 : l[i].f0 < 1
    · rw [if_pos a1, if_neg (fun h => by have := (stpOk_iff _).1 h; omega)]
    rw [if_neg a1]
    by_cases a2 : l[i].f0 > 4
    · rw [if_pos a2, if_neg (fun h => by have := (stpOk_iff _).1 h; omega)]
    rw [if_neg a2]
    by_cases a3 : l[i].f2 < 1
    · rw [if_pos a3, if_neg (fun h => by have := (stpOk_iff _).1 h; omega)]
    rw [if_neg a3]
    by_cases a4 : l[i].f2 > 5
    · rw [if_pos a4, if_neg (fun h => by have := (stpOk_iff _).1 h; omega)]
    rw [if_neg a4]
    by_cases a5 : l[i].f1 < 0
    · rw [if_pos a5, if_neg (fun h => by have := (stpOk_iff _).1 h; omega)]
    rw [if_neg a5]
    by_cases a6 : l[i].f1 ≥ 4096
    · rw [if_pos a6, if_neg (fun h => by have := (stpOk_iff _).1 h; omega)]
    rw [if_neg a6]
    by_cases a7 : l[i].f3 < -1
    · rw [if_pos a7, if_neg (fun h => by have := (stpOk_iff _).1 h; omega)]
    rw [if_neg a7]
    by_cases a8 : l[i].f3 ≥ 4096
    · rw [if_pos a8, if_neg (fun h => by have := (stpOk_iff _).1 h; omega)]
    rw [if_neg a8]
    by_cases a9 : (l[i].f4.length : Int) > 4096
    · rw [if_pos a9, if_neg (fun h => by have := (stpOk_iff _).1 h; omega)]
    rw [if_neg a9]
    have h1 := rcheck_l1 l i l[i].f0 l[i].f1 l[i].f2 l[i].f3 l[i].f4 (by omega) (4200 * d + 1) _ h l[i].f4.length k 0 (by omega) (by omega) (by omega)
    rw [show ((0 : Nat) : Int) = 0 from rfl, List.drop_zero] at h1
    rw [h1]
    congr 1
    by_cases z : l[i].f4.all choOk = true
    · rw [if_pos z, if_pos ((stpOk_iff _).2 ⟨by omega, z⟩)]; rfl
    · rw [if_neg z, if_neg (fun h => z ((stpOk_iff _).1 h).2)]
theorem rcheck (l : List S52) (k : Nat) (hk : 4200 * 65536 < k) : lexpriorref21_Check.f k l = some (chk l) := by
  unfold lexpriorref21_Check.f chk
  by_cases h : 65536 < l.length
  · rw [if_pos (by omega), if_pos h]
  · rw [if_neg (by omega), if_neg h]
    exact rcheck_l0 l (by omega) l.length k 0 (by omega) (by omega) (by omega)
end Go.Proofs.Ytccoeecladhfmaa.P
