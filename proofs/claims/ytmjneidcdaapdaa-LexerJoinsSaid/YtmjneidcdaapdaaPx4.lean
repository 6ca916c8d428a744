-- Written by lexprint.py, a program of this session's own that runs the kit's print with turned rows. Lean checks it.
import Derived.Test.YtmjneidcdaapdaaPx0
import Derived.Test.YtmjneidcdaapdaaLex8
import Derived.Test.YtmjneidcdaapdaaLexB
import Derived.Test.YtmjneidcdaapdaaPx3
namespace Go.Proofs.Ytmjneidcdaapdaa.P
open Go.RowKit Go.Proofs.YtmjneidcdaapdaaW.PrintWords Go.Proofs.YtmjneidcdaapdaaW.PrintLast Go.Proofs.YtmjneidcdaapdaaW.PrintMore
attribute [local go_sem] max2_int min2_int max_two min_two max_three min_three max_four min_four   -- for this text's walks alone
set_option linter.unusedVariables false
set_option linter.unusedSimpArgs false

/-! ### lexpriorref04_one: function 69 -/
mutual
def lexpriorref04_one.j8 : Nat → ByteArray → Int → Int → Int → Option (Int × Int × Int × Int)
 | 0, _, _, _, _ => none
 | k + 1, x0, x1, x9, x10 => if x10 = 1 then (lexpriorref04_one.j9 k x0 x1 x9 x10 (decide ((wrap64 (x9 - x1)) > 32))) else (if x10 = 2 then (lexpriorref04_one.j9 k x0 x1 x9 x10 (decide ((wrap64 (x9 - x1)) > 32))) else (lexpriorref04_one.j9 k x0 x1 x9 x10 false))
def lexpriorref04_one.j9 : Nat → ByteArray → Int → Int → Int → Bool → Option (Int × Int × Int × Int)
 | 0, _, _, _, _, _ => none
 | k + 1, x0, x1, x9, x10, x181 => if x181 = true then (some (0, 0, 5, x1)) else (if x9 < (x0.size : Int) then (if 0 ≤ x9 then ((lexpriorref04_word.f (bt x0 x9)).bind fun t155 => (if t155 = true then (some (0, 0, 41, x9)) else (some (x10, x9, 0, 0)))) else (none)) else (some (x10, x9, 0, 0)))
def lexpriorref04_one.j1 : Nat → ByteArray → Int → Int → Int → Option (Int × Int × Int × Int)
 | 0, _, _, _, _ => none
 | k + 1, x0, x1, x9, x10 => if (wrap64 (x9 + 1)) < (x0.size : Int) then (if 0 ≤ x9 then (if x9 < (x0.size : Int) then (if (bt x0 x9) = 46 then (if 0 ≤ (wrap64 (x9 + 1)) then ((lexpriorref04_digit.f (bt x0 (wrap64 (x9 + 1)))).bind fun t142 => (lexpriorref04_one.j2 k x0 x1 x9 x10 t142)) else (none)) else (lexpriorref04_one.j2 k x0 x1 x9 x10 false)) else (none)) else (none)) else (lexpriorref04_one.j2 k x0 x1 x9 x10 false)
def lexpriorref04_one.j2 : Nat → ByteArray → Int → Int → Int → Bool → Option (Int × Int × Int × Int)
 | 0, _, _, _, _, _ => none
 | k + 1, x0, x1, x9, x10, x77 => if x77 = true then (lexpriorref04_one.l1 k x0 x1 (wrap64 (x9 + 1)) x10) else (lexpriorref04_one.j8 k x0 x1 x9 x10)
def lexpriorref04_one.l1 : Nat → ByteArray → Int → Int → Int → Option (Int × Int × Int × Int)
 | 0, _, _, _, _ => none
 | k + 1, x0, x1, x9, x10 => if x9 < (x0.size : Int) then (if 0 ≤ x9 then ((lexpriorref04_digit.f (bt x0 x9)).bind fun t143 => (if t143 = true then (lexpriorref04_one.l1 k x0 x1 (wrap64 (x9 + 1)) x10) else (lexpriorref04_one.j8 k x0 x1 x9 x10))) else (none)) else (lexpriorref04_one.j8 k x0 x1 x9 x10)
def lexpriorref04_one.l0 : Nat → ByteArray → Int → Int → Int → Option (Int × Int × Int × Int)
 | 0, _, _, _, _ => none
 | k + 1, x0, x1, x9, x10 => if x9 < (x0.size : Int) then (if 0 ≤ x9 then ((lexpriorref04_digit.f (bt x0 x9)).bind fun t141 => (if t141 = true then (lexpriorref04_one.l0 k x0 x1 (wrap64 (x9 + 1)) x10) else (lexpriorref04_one.j1 k x0 x1 x9 x10))) else (none)) else (lexpriorref04_one.j1 k x0 x1 x9 x10)
def lexpriorref04_one.l2 : Nat → ByteArray → Int → Int → Int → Option (Int × Int × Int × Int)
 | 0, _, _, _, _ => none
 | k + 1, x0, x1, x9, x10 => if x9 < (x0.size : Int) then (if 0 ≤ x9 then ((lexpriorref04_small.f (bt x0 x9)).bind fun t145 => (if t145 = true then (lexpriorref04_one.l2 k x0 x1 (wrap64 (x9 + 1)) x10) else ((lexpriorref04_digit.f (bt x0 x9)).bind fun t146 => (if t146 = true then (lexpriorref04_one.l2 k x0 x1 (wrap64 (x9 + 1)) x10) else (if (bt x0 x9) = 95 then (lexpriorref04_one.l2 k x0 x1 (wrap64 (x9 + 1)) x10) else (lexpriorref04_one.j8 k x0 x1 x9 x10)))))) else (none)) else (lexpriorref04_one.j8 k x0 x1 x9 x10)
def lexpriorref04_one.l3 : Nat → ByteArray → Int → Int → Int → Option (Int × Int × Int × Int)
 | 0, _, _, _, _ => none
 | k + 1, x0, x1, x9, x10 => if x9 < (x0.size : Int) then (if 0 ≤ x9 then ((lexpriorref04_word.f (bt x0 x9)).bind fun t148 => (if t148 = true then (lexpriorref04_one.l3 k x0 x1 (wrap64 (x9 + 1)) x10) else (lexpriorref04_one.j8 k x0 x1 x9 x10))) else (none)) else (lexpriorref04_one.j8 k x0 x1 x9 x10)
def lexpriorref04_one.l4 : Nat → ByteArray → Int → Int → Option (Int × Int × Int × Int)
 | 0, _, _, _ => none
 | k + 1, x0, x1, x9 => if x9 < (x0.size : Int) then (if 0 ≤ x9 then (if (bt x0 x9) = 34 then (if x9 = (x0.size : Int) then (some (0, 0, 42, x1)) else (if (bt x0 x9) = 10 then (some (0, 0, 42, x1)) else (some (5, wrap64 (x9 + 1), 0, 0)))) else (if (bt x0 x9) = 10 then (if x9 = (x0.size : Int) then (some (0, 0, 42, x1)) else (some (0, 0, 42, x1))) else (lexpriorref04_one.l4 k x0 x1 (wrap64 (x9 + 1))))) else (none)) else (if x9 = (x0.size : Int) then (some (0, 0, 42, x1)) else (if 0 ≤ x9 then (none) else (none)))
def lexpriorref04_one.l5 : Nat → ByteArray → Int → List ByteArray → Int → Option (Int × Int × Int × Int)
 | 0, _, _, _, _ => none
 | k + 1, x0, x1, x11, x12 => if x12 < (x11.length : Int) then (if 0 ≤ x12 then ((lexpriorref04_begins.f x0 x1 (rdOf ByteArray.empty x11 x12)).bind fun t153 => (if t153 = true then (some (6, wrap64 (x1 + ((rdOf ByteArray.empty x11 x12).size : Int)), 0, 0)) else (lexpriorref04_one.l5 k x0 x1 x11 (wrap64 (x12 + 1))))) else (none)) else (some (0, 0, 41, x1))
end
def lexpriorref04_one.f (k : Nat) (a0 : ByteArray) (a1 : Int) : Option (Int × Int × Int × Int) := if 0 ≤ a1 then (if a1 < (a0.size : Int) then ((lexpriorref04_date.f k a0 a1).bind fun t139 => (if t139 = true then (lexpriorref04_one.j8 k a0 a1 (wrap64 (a1 + 10)) 4) else ((lexpriorref04_digit.f (bt a0 a1)).bind fun t140 => (if t140 = true then (lexpriorref04_one.l0 k a0 a1 a1 3) else ((lexpriorref04_small.f (bt a0 a1)).bind fun t144 => (if t144 = true then (lexpriorref04_one.l2 k a0 a1 a1 1) else ((lexpriorref04_capital.f (bt a0 a1)).bind fun t147 => (if t147 = true then (lexpriorref04_one.l3 k a0 a1 a1 2) else (if (bt a0 a1) = 34 then (lexpriorref04_one.l4 k a0 a1 (wrap64 (a1 + 1))) else ((lexpriorref04_marks.f).bind fun t149 => (lexpriorref04_one.l5 k a0 a1 t149 0))))))))))) else (none)) else (none)
theorem lexpriorref04_one.mono_l : ∀ k, (∀ y0 y1 y2 y3, LeO (lexpriorref04_one.j8 k y0 y1 y2 y3) (lexpriorref04_one.j8 (k + 1) y0 y1 y2 y3)) ∧ (∀ y0 y1 y2 y3 y4, LeO (lexpriorref04_one.j9 k y0 y1 y2 y3 y4) (lexpriorref04_one.j9 (k + 1) y0 y1 y2 y3 y4)) ∧ (∀ y0 y1 y2 y3, LeO (lexpriorref04_one.j1 k y0 y1 y2 y3) (lexpriorref04_one.j1 (k + 1) y0 y1 y2 y3)) ∧ (∀ y0 y1 y2 y3 y4, LeO (lexpriorref04_one.j2 k y0 y1 y2 y3 y4) (lexpriorref04_one.j2 (k + 1) y0 y1 y2 y3 y4)) ∧ (∀ y0 y1 y2 y3, LeO (lexpriorref04_one.l1 k y0 y1 y2 y3) (lexpriorref04_one.l1 (k + 1) y0 y1 y2 y3)) ∧ (∀ y0 y1 y2 y3, LeO (lexpriorref04_one.l0 k y0 y1 y2 y3) (lexpriorref04_one.l0 (k + 1) y0 y1 y2 y3)) ∧ (∀ y0 y1 y2 y3, LeO (lexpriorref04_one.l2 k y0 y1 y2 y3) (lexpriorref04_one.l2 (k + 1) y0 y1 y2 y3)) ∧ (∀ y0 y1 y2 y3, LeO (lexpriorref04_one.l3 k y0 y1 y2 y3) (lexpriorref04_one.l3 (k + 1) y0 y1 y2 y3)) ∧ (∀ y0 y1 y2, LeO (lexpriorref04_one.l4 k y0 y1 y2) (lexpriorref04_one.l4 (k + 1) y0 y1 y2)) ∧ (∀ y0 y1 y2 y3, LeO (lexpriorref04_one.l5 k y0 y1 y2 y3) (lexpriorref04_one.l5 (k + 1) y0 y1 y2 y3))
 | 0 => ⟨fun _ _ _ _ r h => by simp [lexpriorref04_one.j8] at h, fun _ _ _ _ _ r h => by simp [lexpriorref04_one.j9] at h, fun _ _ _ _ r h => by simp [lexpriorref04_one.j1] at h, fun _ _ _ _ _ r h => by simp [lexpriorref04_one.j2] at h, fun _ _ _ _ r h => by simp [lexpriorref04_one.l1] at h, fun _ _ _ _ r h => by simp [lexpriorref04_one.l0] at h, fun _ _ _ _ r h => by simp [lexpriorref04_one.l2] at h, fun _ _ _ _ r h => by simp [lexpriorref04_one.l3] at h, fun _ _ _ r h => by simp [lexpriorref04_one.l4] at h, fun _ _ _ _ r h => by simp [lexpriorref04_one.l5] at h⟩
 | k + 1 => by
  obtain ⟨ih0, ih1, ih2, ih3, ih4, ih5, ih6, ih7, ih8, ih9⟩ := lexpriorref04_one.mono_l k
  refine ⟨?_, ?_, ?_, ?_, ?_, ?_, ?_, ?_, ?_, ?_⟩
  ·intro y0 y1 y2 y3
   unfold lexpriorref04_one.j8
   repeat' first
   | (with_reducible exact ih0 _ _ _ _)
   | (with_reducible exact ih1 _ _ _ _ _)
   | (with_reducible exact ih2 _ _ _ _)
   | (with_reducible exact ih3 _ _ _ _ _)
   | (with_reducible exact ih4 _ _ _ _)
   | (with_reducible exact ih5 _ _ _ _)
   | (with_reducible exact ih6 _ _ _ _)
   | (with_reducible exact ih7 _ _ _ _)
   | (with_reducible exact ih8 _ _ _)
   | (with_reducible exact ih9 _ _ _ _)
   | (with_reducible exact lexpriorref04_date.mono _ _ _)
   | (with_reducible exact LeO.refl _)
   | (with_reducible exact LeO.none _)
   | (with_reducible refine LeO.ite ?_ ?_)
   | (with_reducible refine LeO.bind ?_ (fun _ => ?_))
   | exact ih0 _ _ _ _
   | exact ih1 _ _ _ _ _
   | exact ih2 _ _ _ _
   | exact ih3 _ _ _ _ _
   | exact ih4 _ _ _ _
   | exact ih5 _ _ _ _
   | exact ih6 _ _ _ _
   | exact ih7 _ _ _ _
   | exact ih8 _ _ _
   | exact ih9 _ _ _ _
   | exact lexpriorref04_date.mono _ _ _
   | exact LeO.none _
   | refine LeO.ite ?_ ?_
   | refine LeO.bind ?_ (fun _ => ?_)
  ·intro y0 y1 y2 y3 y4
   unfold lexpriorref04_one.j9
   repeat' first
   | (with_reducible exact ih0 _ _ _ _)
   | (with_reducible exact ih1 _ _ _ _ _)
   | (with_reducible exact ih2 _ _ _ _)
   | (with_reducible exact ih3 _ _ _ _ _)
   | (with_reducible exact ih4 _ _ _ _)
   | (with_reducible exact ih5 _ _ _ _)
   | (with_reducible exact ih6 _ _ _ _)
   | (with_reducible exact ih7 _ _ _ _)
   | (with_reducible exact ih8 _ _ _)
   | (with_reducible exact ih9 _ _ _ _)
   | (with_reducible exact lexpriorref04_date.mono _ _ _)
   | (with_reducible exact LeO.refl _)
   | (with_reducible exact LeO.none _)
   | (with_reducible refine LeO.ite ?_ ?_)
   | (with_reducible refine LeO.bind ?_ (fun _ => ?_))
   | exact ih0 _ _ _ _
   | exact ih1 _ _ _ _ _
   | exact ih2 _ _ _ _
   | exact ih3 _ _ _ _ _
   | exact ih4 _ _ _ _
   | exact ih5 _ _ _ _
   | exact ih6 _ _ _ _
   | exact ih7 _ _ _ _
   | exact ih8 _ _ _
   | exact ih9 _ _ _ _
   | exact lexpriorref04_date.mono _ _ _
   | exact LeO.none _
   | refine LeO.ite ?_ ?_
   | refine LeO.bind ?_ (fun _ => ?_)
  ·intro y0 y1 y2 y3
   unfold lexpriorref04_one.j1
   repeat' first
   | (with_reducible exact ih0 _ _ _ _)
   | (with_reducible exact ih1 _ _ _ _ _)
   | (with_reducible exact ih2 _ _ _ _)
   | (with_reducible exact ih3 _ _ _ _ _)
   | (with_reducible exact ih4 _ _ _ _)
   | (with_reducible exact ih5 _ _ _ _)
   | (with_reducible exact ih6 _ _ _ _)
   | (with_reducible exact ih7 _ _ _ _)
   | (with_reducible exact ih8 _ _ _)
   | (with_reducible exact ih9 _ _ _ _)
   | (with_reducible exact lexpriorref04_date.mono _ _ _)
   | (with_reducible exact LeO.refl _)
   | (with_reducible exact LeO.none _)
   | (with_reducible refine LeO.ite ?_ ?_)
   | (with_reducible refine LeO.bind ?_ (fun _ => ?_))
   | exact ih0 _ _ _ _
   | exact ih1 _ _ _ _ _
   | exact ih2 _ _ _ _
   | exact ih3 _ _ _ _ _
   | exact ih4 _ _ _ _
   | exact ih5 _ _ _ _
   | exact ih6 _ _ _ _
   | exact ih7 _ _ _ _
   | exact ih8 _ _ _
   | exact ih9 _ _ _ _
   | exact lexpriorref04_date.mono _ _ _
   | exact LeO.none _
   | refine LeO.ite ?_ ?_
   | refine LeO.bind ?_ (fun _ => ?_)
  ·intro y0 y1 y2 y3 y4
   unfold lexpriorref04_one.j2
   repeat' first
   | (with_reducible exact ih0 _ _ _ _)
   | (with_reducible exact ih1 _ _ _ _ _)
   | (with_reducible exact ih2 _ _ _ _)
   | (with_reducible exact ih3 _ _ _ _ _)
   | (with_reducible exact ih4 _ _ _ _)
   | (with_reducible exact ih5 _ _ _ _)
   | (with_reducible exact ih6 _ _ _ _)
   | (with_reducible exact ih7 _ _ _ _)
   | (with_reducible exact ih8 _ _ _)
   | (with_reducible exact ih9 _ _ _ _)
   | (with_reducible exact lexpriorref04_date.mono _ _ _)
   | (with_reducible exact LeO.refl _)
   | (with_reducible exact LeO.none _)
   | (with_reducible refine LeO.ite ?_ ?_)
   | (with_reducible refine LeO.bind ?_ (fun _ => ?_))
   | exact ih0 _ _ _ _
   | exact ih1 _ _ _ _ _
   | exact ih2 _ _ _ _
   | exact ih3 _ _ _ _ _
   | exact ih4 _ _ _ _
   | exact ih5 _ _ _ _
   | exact ih6 _ _ _ _
   | exact ih7 _ _ _ _
   | exact ih8 _ _ _
   | exact ih9 _ _ _ _
   | exact lexpriorref04_date.mono _ _ _
   | exact LeO.none _
   | refine LeO.ite ?_ ?_
   | refine LeO.bind ?_ (fun _ => ?_)
  ·intro y0 y1 y2 y3
   unfold lexpriorref04_one.l1
   repeat' first
   | (with_reducible exact ih0 _ _ _ _)
   | (with_reducible exact ih1 _ _ _ _ _)
   | (with_reducible exact ih2 _ _ _ _)
   | (with_reducible exact ih3 _ _ _ _ _)
   | (with_reducible exact ih4 _ _ _ _)
   | (with_reducible exact ih5 _ _ _ _)
   | (with_reducible exact ih6 _ _ _ _)
   | (with_reducible exact ih7 _ _ _ _)
   | (with_reducible exact ih8 _ _ _)
   | (with_reducible exact ih9 _ _ _ _)
   | (with_reducible exact lexpriorref04_date.mono _ _ _)
   | (with_reducible exact LeO.refl _)
   | (with_reducible exact LeO.none _)
   | (with_reducible refine LeO.ite ?_ ?_)
   | (with_reducible refine LeO.bind ?_ (fun _ => ?_))
   | exact ih0 _ _ _ _
   | exact ih1 _ _ _ _ _
   | exact ih2 _ _ _ _
   | exact ih3 _ _ _ _ _
   | exact ih4 _ _ _ _
   | exact ih5 _ _ _ _
   | exact ih6 _ _ _ _
   | exact ih7 _ _ _ _
   | exact ih8 _ _ _
   | exact ih9 _ _ _ _
   | exact lexpriorref04_date.mono _ _ _
   | exact LeO.none _
   | refine LeO.ite ?_ ?_
   | refine LeO.bind ?_ (fun _ => ?_)
  ·intro y0 y1 y2 y3
   unfold lexpriorref04_one.l0
   repeat' first
   | (with_reducible exact ih0 _ _ _ _)
   | (with_reducible exact ih1 _ _ _ _ _)
   | (with_reducible exact ih2 _ _ _ _)
   | (with_reducible exact ih3 _ _ _ _ _)
   | (with_reducible exact ih4 _ _ _ _)
   | (with_reducible exact ih5 _ _ _ _)
   | (with_reducible exact ih6 _ _ _ _)
   | (with_reducible exact ih7 _ _ _ _)
   | (with_reducible exact ih8 _ _ _)
   | (with_reducible exact ih9 _ _ _ _)
   | (with_reducible exact lexpriorref04_date.mono _ _ _)
   | (with_reducible exact LeO.refl _)
   | (with_reducible exact LeO.none _)
   | (with_reducible refine LeO.ite ?_ ?_)
   | (with_reducible refine LeO.bind ?_ (fun _ => ?_))
   | exact ih0 _ _ _ _
   | exact ih1 _ _ _ _ _
   | exact ih2 _ _ _ _
   | exact ih3 _ _ _ _ _
   | exact ih4 _ _ _ _
   | exact ih5 _ _ _ _
   | exact ih6 _ _ _ _
   | exact ih7 _ _ _ _
   | exact ih8 _ _ _
   | exact ih9 _ _ _ _
   | exact lexpriorref04_date.mono _ _ _
   | exact LeO.none _
   | refine LeO.ite ?_ ?_
   | refine LeO.bind ?_ (fun _ => ?_)
  ·intro y0 y1 y2 y3
   unfold lexpriorref04_one.l2
   repeat' first
   | (with_reducible exact ih0 _ _ _ _)
   | (with_reducible exact ih1 _ _ _ _ _)
   | (with_reducible exact ih2 _ _ _ _)
   | (with_reducible exact ih3 _ _ _ _ _)
   | (with_reducible exact ih4 _ _ _ _)
   | (with_reducible exact ih5 _ _ _ _)
   | (with_reducible exact ih6 _ _ _ _)
   | (with_reducible exact ih7 _ _ _ _)
   | (with_reducible exact ih8 _ _ _)
   | (with_reducible exact ih9 _ _ _ _)
   | (with_reducible exact lexpriorref04_date.mono _ _ _)
   | (with_reducible exact LeO.refl _)
   | (with_reducible exact LeO.none _)
   | (with_reducible refine LeO.ite ?_ ?_)
   | (with_reducible refine LeO.bind ?_ (fun _ => ?_))
   | exact ih0 _ _ _ _
   | exact ih1 _ _ _ _ _
   | exact ih2 _ _ _ _
   | exact ih3 _ _ _ _ _
   | exact ih4 _ _ _ _
   | exact ih5 _ _ _ _
   | exact ih6 _ _ _ _
   | exact ih7 _ _ _ _
   | exact ih8 _ _ _
   | exact ih9 _ _ _ _
   | exact lexpriorref04_date.mono _ _ _
   | exact LeO.none _
   | refine LeO.ite ?_ ?_
   | refine LeO.bind ?_ (fun _ => ?_)
  ·intro y0 y1 y2 y3
   unfold lexpriorref04_one.l3
   repeat' first
   | (with_reducible exact ih0 _ _ _ _)
   | (with_reducible exact ih1 _ _ _ _ _)
   | (with_reducible exact ih2 _ _ _ _)
   | (with_reducible exact ih3 _ _ _ _ _)
   | (with_reducible exact ih4 _ _ _ _)
   | (with_reducible exact ih5 _ _ _ _)
   | (with_reducible exact ih6 _ _ _ _)
   | (with_reducible exact ih7 _ _ _ _)
   | (with_reducible exact ih8 _ _ _)
   | (with_reducible exact ih9 _ _ _ _)
   | (with_reducible exact lexpriorref04_date.mono _ _ _)
   | (with_reducible exact LeO.refl _)
   | (with_reducible exact LeO.none _)
   | (with_reducible refine LeO.ite ?_ ?_)
   | (with_reducible refine LeO.bind ?_ (fun _ => ?_))
   | exact ih0 _ _ _ _
   | exact ih1 _ _ _ _ _
   | exact ih2 _ _ _ _
   | exact ih3 _ _ _ _ _
   | exact ih4 _ _ _ _
   | exact ih5 _ _ _ _
   | exact ih6 _ _ _ _
   | exact ih7 _ _ _ _
   | exact ih8 _ _ _
   | exact ih9 _ _ _ _
   | exact lexpriorref04_date.mono _ _ _
   | exact LeO.none _
   | refine LeO.ite ?_ ?_
   | refine LeO.bind ?_ (fun _ => ?_)
  ·intro y0 y1 y2
   unfold lexpriorref04_one.l4
   repeat' first
   | (with_reducible exact ih0 _ _ _ _)
   | (with_reducible exact ih1 _ _ _ _ _)
   | (with_reducible exact ih2 _ _ _ _)
   | (with_reducible exact ih3 _ _ _ _ _)
   | (with_reducible exact ih4 _ _ _ _)
   | (with_reducible exact ih5 _ _ _ _)
   | (with_reducible exact ih6 _ _ _ _)
   | (with_reducible exact ih7 _ _ _ _)
   | (with_reducible exact ih8 _ _ _)
   | (with_reducible exact ih9 _ _ _ _)
   | (with_reducible exact lexpriorref04_date.mono _ _ _)
   | (with_reducible exact LeO.refl _)
   | (with_reducible exact LeO.none _)
   | (with_reducible refine LeO.ite ?_ ?_)
   | (with_reducible refine LeO.bind ?_ (fun _ => ?_))
   | exact ih0 _ _ _ _
   | exact ih1 _ _ _ _ _
   | exact ih2 _ _ _ _
   | exact ih3 _ _ _ _ _
   | exact ih4 _ _ _ _
   | exact ih5 _ _ _ _
   | exact ih6 _ _ _ _
   | exact ih7 _ _ _ _
   | exact ih8 _ _ _
   | exact ih9 _ _ _ _
   | exact lexpriorref04_date.mono _ _ _
   | exact LeO.none _
   | refine LeO.ite ?_ ?_
   | refine LeO.bind ?_ (fun _ => ?_)
  ·intro y0 y1 y2 y3
   unfold lexpriorref04_one.l5
   repeat' first
   | (with_reducible exact ih0 _ _ _ _)
   | (with_reducible exact ih1 _ _ _ _ _)
   | (with_reducible exact ih2 _ _ _ _)
   | (with_reducible exact ih3 _ _ _ _ _)
   | (with_reducible exact ih4 _ _ _ _)
   | (with_reducible exact ih5 _ _ _ _)
   | (with_reducible exact ih6 _ _ _ _)
   | (with_reducible exact ih7 _ _ _ _)
   | (with_reducible exact ih8 _ _ _)
   | (with_reducible exact ih9 _ _ _ _)
   | (with_reducible exact lexpriorref04_date.mono _ _ _)
   | (with_reducible exact LeO.refl _)
   | (with_reducible exact LeO.none _)
   | (with_reducible refine LeO.ite ?_ ?_)
   | (with_reducible refine LeO.bind ?_ (fun _ => ?_))
   | exact ih0 _ _ _ _
   | exact ih1 _ _ _ _ _
   | exact ih2 _ _ _ _
   | exact ih3 _ _ _ _ _
   | exact ih4 _ _ _ _
   | exact ih5 _ _ _ _
   | exact ih6 _ _ _ _
   | exact ih7 _ _ _ _
   | exact ih8 _ _ _
   | exact ih9 _ _ _ _
   | exact lexpriorref04_date.mono _ _ _
   | exact LeO.none _
   | refine LeO.ite ?_ ?_
   | refine LeO.bind ?_ (fun _ => ?_)
theorem lexpriorref04_one.mono : ∀ a0 a1 k, LeO (lexpriorref04_one.f k a0 a1) (lexpriorref04_one.f (k + 1) a0 a1) := by
 intro a0 a1 k
 obtain ⟨ih0, ih1, ih2, ih3, ih4, ih5, ih6, ih7, ih8, ih9⟩ := lexpriorref04_one.mono_l k
 unfold lexpriorref04_one.f
 repeat' first
   | (with_reducible exact ih0 _ _ _ _)
   | (with_reducible exact ih1 _ _ _ _ _)
   | (with_reducible exact ih2 _ _ _ _)
   | (with_reducible exact ih3 _ _ _ _ _)
   | (with_reducible exact ih4 _ _ _ _)
   | (with_reducible exact ih5 _ _ _ _)
   | (with_reducible exact ih6 _ _ _ _)
   | (with_reducible exact ih7 _ _ _ _)
   | (with_reducible exact ih8 _ _ _)
   | (with_reducible exact ih9 _ _ _ _)
   | (with_reducible exact lexpriorref04_date.mono _ _ _)
   | (with_reducible exact LeO.refl _)
   | (with_reducible exact LeO.none _)
   | (with_reducible refine LeO.ite ?_ ?_)
   | (with_reducible refine LeO.bind ?_ (fun _ => ?_))
   | exact ih0 _ _ _ _
   | exact ih1 _ _ _ _ _
   | exact ih2 _ _ _ _
   | exact ih3 _ _ _ _ _
   | exact ih4 _ _ _ _
   | exact ih5 _ _ _ _
   | exact ih6 _ _ _ _
   | exact ih7 _ _ _ _
   | exact ih8 _ _ _
   | exact ih9 _ _ _ _
   | exact lexpriorref04_date.mono _ _ _
   | exact LeO.none _
   | refine LeO.ite ?_ ?_
   | refine LeO.bind ?_ (fun _ => ?_)
set_option maxHeartbeats 8000000 in
set_option maxRecDepth 100000 in
theorem lexpriorref04_one.calls (k : Nat) (a0 : ByteArray) (a1 : Int) (r1 : Int) (r2 : Int) (r3 : Int) (r4 : Int) (w : World) (h : lexpriorref04_one.f k a0 a1 = some (r1, r2, r3, r4)) :
  Calls Try.prog 69 #[.string a0, .int .i64 a1] w fun e w' => e = .returned (.tuple #[.int .i64 r1, .int .i64 r2, .int .i64 r3, .int .i64 r4]) ∧ Below w.heap.size w w' := by
 have HB := Aside0.mk (Below.refl w.heap.size w)
 have H : (if 0 ≤ a1 then (if a1 < (a0.size : Int) then ((lexpriorref04_date.f k a0 a1).bind fun t139 => (if t139 = true then (lexpriorref04_one.j8 k a0 a1 (wrap64 (a1 + 10)) 4) else ((lexpriorref04_digit.f (bt a0 a1)).bind fun t140 => (if t140 = true then (lexpriorref04_one.l0 k a0 a1 a1 3) else ((lexpriorref04_small.f (bt a0 a1)).bind fun t144 => (if t144 = true then (lexpriorref04_one.l2 k a0 a1 a1 1) else ((lexpriorref04_capital.f (bt a0 a1)).bind fun t147 => (if t147 = true then (lexpriorref04_one.l3 k a0 a1 a1 2) else (if (bt a0 a1) = 34 then (lexpriorref04_one.l4 k a0 a1 (wrap64 (a1 + 1))) else ((lexpriorref04_marks.f).bind fun t149 => (lexpriorref04_one.l5 k a0 a1 t149 0))))))))))) else (none)) else (none)) = some (r1, r2, r3, r4) := h
 clear h
 by_cases c3 : 0 ≤ a1
 ·rw [if_pos c3] at H
  have c3b0 : decide (0 ≤ a1) = true := decide_eq_true c3
  clear c3
  by_cases c4 : a1 < (a0.size : Int)
  ·rw [if_pos c4] at H
   have c4b0 : decide (a1 < (a0.size : Int)) = true := decide_eq_true c4
   clear c4
   have HC6 := Aside0.mk H
   clear H
   have p5 : 0 ≤ (a1 : Int) := of_decide_eq_true (by first | (with_reducible assumption) | assumption)
   have q5 : a1 < (a0.size : Int) := of_decide_eq_true (by first | (with_reducible assumption) | assumption)
   have hx5 := bt_at a0 a1
   replace p5 := eq_true p5
   replace q5 := eq_true q5
   go_enter Try.func69, Try.ntmps69
   go_upto_block 0 with (fail)
   repeat (go_quiet (fail); go_upto_block 0 with (fail))
   go_cut [9, 10] (fun v9 v10 wc => ∃ (kq : Nat) (x9_5 : Int) (x10_5 : Int), v9 = .int .i64 x9_5 ∧ v10 = .int .i64 x10_5 ∧ Aside0 (lexpriorref04_one.j8 kq a0 a1 x9_5 x10_5 = some (r1, r2, r3, r4)) ∧ Aside0 (kq ≤ k) ∧ Aside0 (Below w.heap.size w wc))
   case first =>
    have H := HC6.out
    clear HC6
    replace H := Option.bind_eq_some_iff.mp H
    obtain ⟨t139, A70, H⟩ := H
    replace H : (if t139 = true then (lexpriorref04_one.j8 k a0 a1 (wrap64 (a1 + 10)) 4) else ((lexpriorref04_digit.f (bt a0 a1)).bind fun t140 => (if t140 = true then (lexpriorref04_one.l0 k a0 a1 a1 3) else ((lexpriorref04_small.f (bt a0 a1)).bind fun t144 => (if t144 = true then (lexpriorref04_one.l2 k a0 a1 a1 1) else ((lexpriorref04_capital.f (bt a0 a1)).bind fun t147 => (if t147 = true then (lexpriorref04_one.l3 k a0 a1 a1 2) else (if (bt a0 a1) = 34 then (lexpriorref04_one.l4 k a0 a1 (wrap64 (a1 + 1))) else ((lexpriorref04_marks.f).bind fun t149 => (lexpriorref04_one.l5 k a0 a1 t149 0)))))))))) = some (r1, r2, r3, r4) := H
    have A7 := Aside0.mk A70
    clear A70
    by_cases c8 : t139 = true
    ·subst c8
     have H1 : (lexpriorref04_one.j8 k a0 a1 (wrap64 (a1 + 10)) 4) = some (r1, r2, r3, r4) := by rw [if_pos rfl] at H; exact H
     clear H
     have H := H1
     clear H1
     have H' := Aside0.mk H
     clear H
     go_wp2_with (first | (go_at_call 108; (with_reducible refine (lexpriorref04_date.calls k a0 a1 true _ A7.out).mono ?_); rintro e w' ⟨rfl, ⟨nd, rfl⟩⟩; (try first | exact ⟨rfl, _, World.drewN_drewN _ _ _⟩ | exact ⟨rfl, _, Eq.trans (World.drewN_drewN _ _ _) (congrArg (World.drewN _) (Nat.add_assoc _ _ _))⟩)))
     repeat (go_quiet (first | (go_at_call 108; (with_reducible refine (lexpriorref04_date.calls k a0 a1 true _ A7.out).mono ?_); rintro e w' ⟨rfl, ⟨nd, rfl⟩⟩; (try first | exact ⟨rfl, _, World.drewN_drewN _ _ _⟩ | exact ⟨rfl, _, Eq.trans (World.drewN_drewN _ _ _) (congrArg (World.drewN _) (Nat.add_assoc _ _ _))⟩))); try go_wp2_with (first | (go_at_call 108; (with_reducible refine (lexpriorref04_date.calls k a0 a1 true _ A7.out).mono ?_); rintro e w' ⟨rfl, ⟨nd, rfl⟩⟩; (try first | exact ⟨rfl, _, World.drewN_drewN _ _ _⟩ | exact ⟨rfl, _, Eq.trans (World.drewN_drewN _ _ _) (congrArg (World.drewN _) (Nat.add_assoc _ _ _))⟩))))
     go_meet
     case rel => exact ⟨_, (wrap64 (a1 + 10)), (4), (by first | rfl | (simp; done) | (simp [*]; done)), (by first | rfl | (simp; done) | (simp [*]; done)), H', ⟨by first | omega | exact Nat.le_refl _⟩, ⟨by repeat (first | (with_reducible first | exact HB.out | apply below_alloc | apply pw_below_drewN | apply below_drew1) | exact HB.out)⟩⟩
    ·replace c8 := Bool.eq_false_iff.mpr c8
     subst c8
     have H1 : ((lexpriorref04_digit.f (bt a0 a1)).bind fun t140 => (if t140 = true then (lexpriorref04_one.l0 k a0 a1 a1 3) else ((lexpriorref04_small.f (bt a0 a1)).bind fun t144 => (if t144 = true then (lexpriorref04_one.l2 k a0 a1 a1 1) else ((lexpriorref04_capital.f (bt a0 a1)).bind fun t147 => (if t147 = true then (lexpriorref04_one.l3 k a0 a1 a1 2) else (if (bt a0 a1) = 34 then (lexpriorref04_one.l4 k a0 a1 (wrap64 (a1 + 1))) else ((lexpriorref04_marks.f).bind fun t149 => (lexpriorref04_one.l5 k a0 a1 t149 0))))))))) = some (r1, r2, r3, r4) := by rw [if_neg (show ¬ (false = true) by decide)] at H; exact H
     clear H
     have H := H1
     clear H1
     replace H := Option.bind_eq_some_iff.mp H
     obtain ⟨t140, A90, H⟩ := H
     replace H : (if t140 = true then (lexpriorref04_one.l0 k a0 a1 a1 3) else ((lexpriorref04_small.f (bt a0 a1)).bind fun t144 => (if t144 = true then (lexpriorref04_one.l2 k a0 a1 a1 1) else ((lexpriorref04_capital.f (bt a0 a1)).bind fun t147 => (if t147 = true then (lexpriorref04_one.l3 k a0 a1 a1 2) else (if (bt a0 a1) = 34 then (lexpriorref04_one.l4 k a0 a1 (wrap64 (a1 + 1))) else ((lexpriorref04_marks.f).bind fun t149 => (lexpriorref04_one.l5 k a0 a1 t149 0)))))))) = some (r1, r2, r3, r4) := H
     have A9 := Aside0.mk A90
     clear A90
     by_cases c10 : t140 = true
     ·subst c10
      have H1 : (lexpriorref04_one.l0 k a0 a1 a1 3) = some (r1, r2, r3, r4) := by rw [if_pos rfl] at H; exact H
      clear H
      have H := H1
      clear H1
      have HC11 := Aside0.mk H
      clear H
      go_upto_block 3 with (first | (go_at_call 108; (with_reducible refine (lexpriorref04_date.calls k a0 a1 false _ A7.out).mono ?_); rintro e w' ⟨rfl, ⟨nd, rfl⟩⟩; (try first | exact ⟨rfl, _, World.drewN_drewN _ _ _⟩ | exact ⟨rfl, _, Eq.trans (World.drewN_drewN _ _ _) (congrArg (World.drewN _) (Nat.add_assoc _ _ _))⟩)) | (go_at_call 109; (with_reducible refine (lexpriorref04_digit.calls (bt a0 a1) true _ A9.out).mono ?_); rintro e w' ⟨rfl, ⟨nd, rfl⟩⟩; (try first | exact ⟨rfl, _, World.drewN_drewN _ _ _⟩ | exact ⟨rfl, _, Eq.trans (World.drewN_drewN _ _ _) (congrArg (World.drewN _) (Nat.add_assoc _ _ _))⟩)))
      repeat (go_quiet (first | (go_at_call 108; (with_reducible refine (lexpriorref04_date.calls k a0 a1 false _ A7.out).mono ?_); rintro e w' ⟨rfl, ⟨nd, rfl⟩⟩; (try first | exact ⟨rfl, _, World.drewN_drewN _ _ _⟩ | exact ⟨rfl, _, Eq.trans (World.drewN_drewN _ _ _) (congrArg (World.drewN _) (Nat.add_assoc _ _ _))⟩)) | (go_at_call 109; (with_reducible refine (lexpriorref04_digit.calls (bt a0 a1) true _ A9.out).mono ?_); rintro e w' ⟨rfl, ⟨nd, rfl⟩⟩; (try first | exact ⟨rfl, _, World.drewN_drewN _ _ _⟩ | exact ⟨rfl, _, Eq.trans (World.drewN_drewN _ _ _) (congrArg (World.drewN _) (Nat.add_assoc _ _ _))⟩))); go_upto_block 3 with (first | (go_at_call 108; (with_reducible refine (lexpriorref04_date.calls k a0 a1 false _ A7.out).mono ?_); rintro e w' ⟨rfl, ⟨nd, rfl⟩⟩; (try first | exact ⟨rfl, _, World.drewN_drewN _ _ _⟩ | exact ⟨rfl, _, Eq.trans (World.drewN_drewN _ _ _) (congrArg (World.drewN _) (Nat.add_assoc _ _ _))⟩)) | (go_at_call 109; (with_reducible refine (lexpriorref04_digit.calls (bt a0 a1) true _ A9.out).mono ?_); rintro e w' ⟨rfl, ⟨nd, rfl⟩⟩; (try first | exact ⟨rfl, _, World.drewN_drewN _ _ _⟩ | exact ⟨rfl, _, Eq.trans (World.drewN_drewN _ _ _) (congrArg (World.drewN _) (Nat.add_assoc _ _ _))⟩))))
      (try simp only [Act.put, List.setIfInBounds_toArray, List.set_cons_zero, List.set_cons_succ])
      go_cut [9] (fun v9 wc => ∃ (kq : Nat) (x9_10 : Int), v9 = .int .i64 x9_10 ∧ Aside0 (lexpriorref04_one.j1 kq a0 a1 x9_10 3 = some (r1, r2, r3, r4)) ∧ Aside0 (kq ≤ k) ∧ Aside0 (Below w.heap.size w wc))
      case first =>
       have H := HC11.out
       clear HC11
       have H' := Aside0.mk H
       clear H
       go_wp2
       repeat (go_quiet (fail); try go_wp2)
       go_loopg [9] k (fun kq v9 w' => ∃ (x9_1 : Int), v9 = .int .i64 x9_1 ∧ Aside0 (lexpriorref04_one.l0 kq a0 a1 x9_1 3 = some (r1, r2, r3, r4)) ∧ Aside0 (kq ≤ k) ∧ Aside0 (Below w.heap.size w w'))
       case atStart => exact ⟨(a1), (by first | rfl | (simp; done) | (simp [*]; done)), H', ⟨Nat.le_refl _⟩, ⟨by repeat (first | (with_reducible first | exact HB.out | apply below_alloc | apply pw_below_drewN | apply below_drew1) | exact HB.out)⟩⟩
       case round =>
        clear H'
        obtain ⟨x9_1, rfl, HA, HK1, HB⟩ := hrel
        cases gk with
        | zero => exact absurd HA.out (by simp [lexpriorref04_one.l0])
        | succ k1 =>
         have H := HA.out
         clear HA
         simp only [lexpriorref04_one.l0] at H
         by_cases c12 : x9_1 < (a0.size : Int)
         ·rw [if_pos c12] at H
          have c12b0 : decide (x9_1 < (a0.size : Int)) = true := decide_eq_true c12
          clear c12
          (first | rw [c12b0] | (simp only [i64_w, i32_w]; rw [c12b0]) | skip)
          by_cases c13 : 0 ≤ x9_1
          ·rw [if_pos c13] at H
           have c13b0 : decide (0 ≤ x9_1) = true := decide_eq_true c13
           clear c13
           replace H := Option.bind_eq_some_iff.mp H
           obtain ⟨t141, A150, H⟩ := H
           replace H : (if t141 = true then (lexpriorref04_one.l0 k1 a0 a1 (wrap64 (x9_1 + 1)) 3) else (lexpriorref04_one.j1 k1 a0 a1 x9_1 3)) = some (r1, r2, r3, r4) := H
           have A15 := Aside0.mk A150
           clear A150
           by_cases c16 : t141 = true
           ·subst c16
            have H1 : (lexpriorref04_one.l0 k1 a0 a1 (wrap64 (x9_1 + 1)) 3) = some (r1, r2, r3, r4) := by rw [if_pos rfl] at H; exact H
            clear H
            have H := H1
            clear H1
            have H' := Aside0.mk H
            clear H
            have p14 : 0 ≤ (x9_1 : Int) := of_decide_eq_true (by first | (with_reducible assumption) | assumption)
            have q14 : x9_1 < (a0.size : Int) := of_decide_eq_true (by first | (with_reducible assumption) | assumption)
            have hx14 := bt_at a0 x9_1
            replace p14 := eq_true p14
            replace q14 := eq_true q14
            go_wp2_with (first | (go_at_call 109; (with_reducible refine (lexpriorref04_digit.calls (bt a0 x9_1) true _ A15.out).mono ?_); rintro e w' ⟨rfl, ⟨nd, rfl⟩⟩; (try first | exact ⟨rfl, _, World.drewN_drewN _ _ _⟩ | exact ⟨rfl, _, Eq.trans (World.drewN_drewN _ _ _) (congrArg (World.drewN _) (Nat.add_assoc _ _ _))⟩)))
            repeat (go_quiet (first | (go_at_call 109; (with_reducible refine (lexpriorref04_digit.calls (bt a0 x9_1) true _ A15.out).mono ?_); rintro e w' ⟨rfl, ⟨nd, rfl⟩⟩; (try first | exact ⟨rfl, _, World.drewN_drewN _ _ _⟩ | exact ⟨rfl, _, Eq.trans (World.drewN_drewN _ _ _) (congrArg (World.drewN _) (Nat.add_assoc _ _ _))⟩))); try go_wp2_with (first | (go_at_call 109; (with_reducible refine (lexpriorref04_digit.calls (bt a0 x9_1) true _ A15.out).mono ?_); rintro e w' ⟨rfl, ⟨nd, rfl⟩⟩; (try first | exact ⟨rfl, _, World.drewN_drewN _ _ _⟩ | exact ⟨rfl, _, Eq.trans (World.drewN_drewN _ _ _) (congrArg (World.drewN _) (Nat.add_assoc _ _ _))⟩))))
            go_roundg k1
            case measure => have := HK1.out; omega
            case rel => exact ⟨(wrap64 (x9_1 + 1)), (by first | rfl | (simp; done) | (simp [*]; done)), H', ⟨by have := HK1.out; omega⟩, ⟨by repeat (first | (with_reducible first | exact HB.out | apply below_alloc | apply pw_below_drewN | apply below_drew1) | exact HB.out)⟩⟩
           ·replace c16 := Bool.eq_false_iff.mpr c16
            subst c16
            have H1 : (lexpriorref04_one.j1 k1 a0 a1 x9_1 3) = some (r1, r2, r3, r4) := by rw [if_neg (show ¬ (false = true) by decide)] at H; exact H
            clear H
            have H := H1
            clear H1
            have H' := Aside0.mk H
            clear H
            have p14 : 0 ≤ (x9_1 : Int) := of_decide_eq_true (by first | (with_reducible assumption) | assumption)
            have q14 : x9_1 < (a0.size : Int) := of_decide_eq_true (by first | (with_reducible assumption) | assumption)
            have hx14 := bt_at a0 x9_1
            replace p14 := eq_true p14
            replace q14 := eq_true q14
            go_wp2_with (first | (go_at_call 109; (with_reducible refine (lexpriorref04_digit.calls (bt a0 x9_1) false _ A15.out).mono ?_); rintro e w' ⟨rfl, ⟨nd, rfl⟩⟩; (try first | exact ⟨rfl, _, World.drewN_drewN _ _ _⟩ | exact ⟨rfl, _, Eq.trans (World.drewN_drewN _ _ _) (congrArg (World.drewN _) (Nat.add_assoc _ _ _))⟩)))
            repeat (go_quiet (first | (go_at_call 109; (with_reducible refine (lexpriorref04_digit.calls (bt a0 x9_1) false _ A15.out).mono ?_); rintro e w' ⟨rfl, ⟨nd, rfl⟩⟩; (try first | exact ⟨rfl, _, World.drewN_drewN _ _ _⟩ | exact ⟨rfl, _, Eq.trans (World.drewN_drewN _ _ _) (congrArg (World.drewN _) (Nat.add_assoc _ _ _))⟩))); try go_wp2_with (first | (go_at_call 109; (with_reducible refine (lexpriorref04_digit.calls (bt a0 x9_1) false _ A15.out).mono ?_); rintro e w' ⟨rfl, ⟨nd, rfl⟩⟩; (try first | exact ⟨rfl, _, World.drewN_drewN _ _ _⟩ | exact ⟨rfl, _, Eq.trans (World.drewN_drewN _ _ _) (congrArg (World.drewN _) (Nat.add_assoc _ _ _))⟩))))
            go_meet
            case rel => exact ⟨_, (x9_1), (by first | rfl | (simp; done) | (simp [*]; done)), H', ⟨by have := HK1.out; first | omega | exact Nat.le_refl _⟩, ⟨by repeat (first | (with_reducible first | exact HB.out | apply below_alloc | apply pw_below_drewN | apply below_drew1) | exact HB.out)⟩⟩
          ·rw [if_neg c13] at H
           exact absurd H (by simp)
         ·rw [if_neg c12] at H
          have c12b0 : decide (x9_1 < (a0.size : Int)) = false := decide_eq_false c12
          clear c12
          (first | rw [c12b0] | (simp only [i64_w, i32_w]; rw [c12b0]) | skip)
          have H' := Aside0.mk H
          clear H
          go_wp2
          repeat (go_quiet (fail); try go_wp2)
          go_meet
          case rel => exact ⟨_, (x9_1), (by first | rfl | (simp; done) | (simp [*]; done)), H', ⟨by have := HK1.out; first | omega | exact Nat.le_refl _⟩, ⟨by repeat (first | (with_reducible first | exact HB.out | apply below_alloc | apply pw_below_drewN | apply below_drew1) | exact HB.out)⟩⟩
      case rest =>
       clear HC11
       obtain ⟨kq, x9_10, rfl, HA, HJ10, HB⟩ := hcut
       cases kq with
       | zero => exact absurd HA.out (by simp [lexpriorref04_one.j1])
       | succ kj10 =>
        have H := HA.out
        clear HA
        simp only [lexpriorref04_one.j1] at H
        have HC17 := Aside0.mk H
        clear H
        go_upto_region 18 with (fail)
        repeat (go_quiet (fail); go_upto_region 18 with (fail))
        go_cut [77] (fun v77 wc => ∃ (kq : Nat) (x77_16 : Bool), v77 = .bool x77_16 ∧ Aside0 (lexpriorref04_one.j2 kq a0 a1 x9_10 3 x77_16 = some (r1, r2, r3, r4)) ∧ Aside0 (kq ≤ kj10) ∧ Aside0 (Below w.heap.size w wc))
        case first =>
         have H := HC17.out
         clear HC17
         by_cases c18 : (wrap64 (x9_10 + 1)) < (a0.size : Int)
         ·rw [if_pos c18] at H
          have c18b0 : decide ((wrap64 (x9_10 + 1)) < (a0.size : Int)) = true := decide_eq_true c18
          clear c18
          (first | rw [c18b0] | (simp only [i64_w, i32_w]; rw [c18b0]) | skip)
          by_cases c19 : 0 ≤ x9_10
          ·rw [if_pos c19] at H
           have c19b0 : decide (0 ≤ x9_10) = true := decide_eq_true c19
           clear c19
           by_cases c20 : x9_10 < (a0.size : Int)
           ·rw [if_pos c20] at H
            have c20b0 : decide (x9_10 < (a0.size : Int)) = true := decide_eq_true c20
            clear c20
            by_cases c22 : (bt a0 x9_10) = 46
            ·rw [if_pos c22] at H
             have c22b0 : ((bt a0 x9_10) == 46) = true := beq_iff_eq.mpr c22
             have c22b1 : ((bt a0 x9_10) != 46) = false := bne_eq_false_iff_eq.mpr c22
             clear c22
             obtain ⟨ji23, hji23⟩ : ∃ j_ : Int, (wrap64 (x9_10 + 1)) = j_ := ⟨_, rfl⟩
             replace H : (if 0 ≤ (ji23) then ((lexpriorref04_digit.f (bt a0 (ji23))).bind fun t142 => (lexpriorref04_one.j2 kj10 a0 a1 x9_10 3 t142)) else (none)) = some (r1, r2, r3, r4) := by first | (rw [hji23] at H; exact H) | (simp only [hji23] at H ⊢; exact H)
             (try rw [hji23] at c18b0)
             have hji23w : (IntKind.i64.wrap (x9_10 + 1)) = ji23 := (i64_w _).trans hji23
             by_cases c24 : 0 ≤ (ji23)
             ·rw [if_pos c24] at H
              have c24b0 : decide (0 ≤ (ji23)) = true := decide_eq_true c24
              clear c24
              replace H := Option.bind_eq_some_iff.mp H
              obtain ⟨t142, A260, H⟩ := H
              replace H : (lexpriorref04_one.j2 kj10 a0 a1 x9_10 3 t142) = some (r1, r2, r3, r4) := H
              have A26 := Aside0.mk A260
              clear A260
              have H' := Aside0.mk H
              clear H
              have p21 : 0 ≤ (x9_10 : Int) := of_decide_eq_true (by first | (with_reducible assumption) | assumption)
              have q21 : x9_10 < (a0.size : Int) := of_decide_eq_true (by first | (with_reducible assumption) | assumption)
              have hx21 := bt_at a0 x9_10
              replace p21 := eq_true p21
              replace q21 := eq_true q21
              have p25 : 0 ≤ ((ji23) : Int) := of_decide_eq_true (by first | (with_reducible assumption) | assumption)
              have q25 : (ji23) < (a0.size : Int) := of_decide_eq_true (by first | (with_reducible assumption) | assumption)
              have hx25 := bt_at a0 (ji23)
              replace p25 := eq_true p25
              replace q25 := eq_true q25
              go_wp2_with (first | (go_at_call 109; (with_reducible refine (lexpriorref04_digit.calls (bt a0 (ji23)) t142 _ A26.out).mono ?_); rintro e w' ⟨rfl, ⟨nd, rfl⟩⟩; (try first | exact ⟨rfl, _, World.drewN_drewN _ _ _⟩ | exact ⟨rfl, _, Eq.trans (World.drewN_drewN _ _ _) (congrArg (World.drewN _) (Nat.add_assoc _ _ _))⟩)))
              repeat (go_quiet (first | (go_at_call 109; (with_reducible refine (lexpriorref04_digit.calls (bt a0 (ji23)) t142 _ A26.out).mono ?_); rintro e w' ⟨rfl, ⟨nd, rfl⟩⟩; (try first | exact ⟨rfl, _, World.drewN_drewN _ _ _⟩ | exact ⟨rfl, _, Eq.trans (World.drewN_drewN _ _ _) (congrArg (World.drewN _) (Nat.add_assoc _ _ _))⟩))); try go_wp2_with (first | (go_at_call 109; (with_reducible refine (lexpriorref04_digit.calls (bt a0 (ji23)) t142 _ A26.out).mono ?_); rintro e w' ⟨rfl, ⟨nd, rfl⟩⟩; (try first | exact ⟨rfl, _, World.drewN_drewN _ _ _⟩ | exact ⟨rfl, _, Eq.trans (World.drewN_drewN _ _ _) (congrArg (World.drewN _) (Nat.add_assoc _ _ _))⟩))))
              go_meet
              case rel => exact ⟨_, (t142), (by first | rfl | (simp; done) | (simp [*]; done)), H', ⟨by have := HJ10.out; first | omega | exact Nat.le_refl _⟩, ⟨by repeat (first | (with_reducible first | exact HB.out | apply below_alloc | apply pw_below_drewN | apply below_drew1) | exact HB.out)⟩⟩
             ·rw [if_neg c24] at H
              exact absurd H (by simp)
            ·rw [if_neg c22] at H
             have c22b0 : ((bt a0 x9_10) == 46) = false := beq_eq_false_iff_ne.mpr c22
             have c22b1 : ((bt a0 x9_10) != 46) = true := bne_iff_ne.mpr c22
             have H' := Aside0.mk H
             clear H
             have p21 : 0 ≤ (x9_10 : Int) := of_decide_eq_true (by first | (with_reducible assumption) | assumption)
             have q21 : x9_10 < (a0.size : Int) := of_decide_eq_true (by first | (with_reducible assumption) | assumption)
             have hx21 := bt_at a0 x9_10
             replace p21 := eq_true p21
             replace q21 := eq_true q21
             go_wp2
             repeat (go_quiet (fail); try go_wp2)
             go_meet
             case rel => exact ⟨_, (false), (by first | rfl | (simp; done) | (simp [*]; done)), H', ⟨by have := HJ10.out; first | omega | exact Nat.le_refl _⟩, ⟨by repeat (first | (with_reducible first | exact HB.out | apply below_alloc | apply pw_below_drewN | apply below_drew1) | exact HB.out)⟩⟩
           ·rw [if_neg c20] at H
            exact absurd H (by simp)
          ·rw [if_neg c19] at H
           exact absurd H (by simp)
         ·rw [if_neg c18] at H
          have c18b0 : decide ((wrap64 (x9_10 + 1)) < (a0.size : Int)) = false := decide_eq_false c18
          clear c18
          (first | rw [c18b0] | (simp only [i64_w, i32_w]; rw [c18b0]) | skip)
          have H' := Aside0.mk H
          clear H
          go_wp2
          repeat (go_quiet (fail); try go_wp2)
          go_meet
          case rel => exact ⟨_, (false), (by first | rfl | (simp; done) | (simp [*]; done)), H', ⟨by have := HJ10.out; first | omega | exact Nat.le_refl _⟩, ⟨by repeat (first | (with_reducible first | exact HB.out | apply below_alloc | apply pw_below_drewN | apply below_drew1) | exact HB.out)⟩⟩
        case rest =>
         clear HC17
         obtain ⟨kq, x77_16, rfl, HA, HJ16, HB⟩ := hcut
         cases kq with
         | zero => exact absurd HA.out (by simp [lexpriorref04_one.j2])
         | succ kj16 =>
          have H := HA.out
          clear HA
          simp only [lexpriorref04_one.j2] at H
          by_cases c27 : x77_16 = true
          ·subst c27
           have H1 : (lexpriorref04_one.l1 kj16 a0 a1 (wrap64 (x9_10 + 1)) 3) = some (r1, r2, r3, r4) := by rw [if_pos rfl] at H; exact H
           clear H
           have H := H1
           clear H1
           have H' := Aside0.mk H
           clear H
           go_wp2
           repeat (go_quiet (fail); try go_wp2)
           go_loopg [9] kj16 (fun kq v9 w' => ∃ (x9_3 : Int), v9 = .int .i64 x9_3 ∧ Aside0 (lexpriorref04_one.l1 kq a0 a1 x9_3 3 = some (r1, r2, r3, r4)) ∧ Aside0 (kq ≤ kj16) ∧ Aside0 (Below w.heap.size w w'))
           case atStart => exact ⟨(wrap64 (x9_10 + 1)), (by first | rfl | (simp; done) | (simp [*]; done)), H', ⟨Nat.le_refl _⟩, ⟨by repeat (first | (with_reducible first | exact HB.out | apply below_alloc | apply pw_below_drewN | apply below_drew1) | exact HB.out)⟩⟩
           case round =>
            clear H'
            obtain ⟨x9_3, rfl, HA, HK3, HB⟩ := hrel
            cases gk with
            | zero => exact absurd HA.out (by simp [lexpriorref04_one.l1])
            | succ k3 =>
             have H := HA.out
             clear HA
             simp only [lexpriorref04_one.l1] at H
             by_cases c28 : x9_3 < (a0.size : Int)
             ·rw [if_pos c28] at H
              have c28b0 : decide (x9_3 < (a0.size : Int)) = true := decide_eq_true c28
              clear c28
              by_cases c29 : 0 ≤ x9_3
              ·rw [if_pos c29] at H
               have c29b0 : decide (0 ≤ x9_3) = true := decide_eq_true c29
               clear c29
               replace H := Option.bind_eq_some_iff.mp H
               obtain ⟨t143, A310, H⟩ := H
               replace H : (if t143 = true then (lexpriorref04_one.l1 k3 a0 a1 (wrap64 (x9_3 + 1)) 3) else (lexpriorref04_one.j8 k3 a0 a1 x9_3 3)) = some (r1, r2, r3, r4) := H
               have A31 := Aside0.mk A310
               clear A310
               by_cases c32 : t143 = true
               ·subst c32
                have H1 : (lexpriorref04_one.l1 k3 a0 a1 (wrap64 (x9_3 + 1)) 3) = some (r1, r2, r3, r4) := by rw [if_pos rfl] at H; exact H
                clear H
                have H := H1
                clear H1
                have H' := Aside0.mk H
                clear H
                have p30 : 0 ≤ (x9_3 : Int) := of_decide_eq_true (by first | (with_reducible assumption) | assumption)
                have q30 : x9_3 < (a0.size : Int) := of_decide_eq_true (by first | (with_reducible assumption) | assumption)
                have hx30 := bt_at a0 x9_3
                replace p30 := eq_true p30
                replace q30 := eq_true q30
                go_wp2_with (first | (go_at_call 109; (with_reducible refine (lexpriorref04_digit.calls (bt a0 x9_3) true _ A31.out).mono ?_); rintro e w' ⟨rfl, ⟨nd, rfl⟩⟩; (try first | exact ⟨rfl, _, World.drewN_drewN _ _ _⟩ | exact ⟨rfl, _, Eq.trans (World.drewN_drewN _ _ _) (congrArg (World.drewN _) (Nat.add_assoc _ _ _))⟩)))
                repeat (go_quiet (first | (go_at_call 109; (with_reducible refine (lexpriorref04_digit.calls (bt a0 x9_3) true _ A31.out).mono ?_); rintro e w' ⟨rfl, ⟨nd, rfl⟩⟩; (try first | exact ⟨rfl, _, World.drewN_drewN _ _ _⟩ | exact ⟨rfl, _, Eq.trans (World.drewN_drewN _ _ _) (congrArg (World.drewN _) (Nat.add_assoc _ _ _))⟩))); try go_wp2_with (first | (go_at_call 109; (with_reducible refine (lexpriorref04_digit.calls (bt a0 x9_3) true _ A31.out).mono ?_); rintro e w' ⟨rfl, ⟨nd, rfl⟩⟩; (try first | exact ⟨rfl, _, World.drewN_drewN _ _ _⟩ | exact ⟨rfl, _, Eq.trans (World.drewN_drewN _ _ _) (congrArg (World.drewN _) (Nat.add_assoc _ _ _))⟩))))
                go_roundg k3
                case measure => have := HJ10.out; have := HJ16.out; have := HK3.out; omega
                case rel => exact ⟨(wrap64 (x9_3 + 1)), (by first | rfl | (simp; done) | (simp [*]; done)), H', ⟨by have := HJ10.out; have := HJ16.out; have := HK3.out; omega⟩, ⟨by repeat (first | (with_reducible first | exact HB.out | apply below_alloc | apply pw_below_drewN | apply below_drew1) | exact HB.out)⟩⟩
               ·replace c32 := Bool.eq_false_iff.mpr c32
                subst c32
                have H1 : (lexpriorref04_one.j8 k3 a0 a1 x9_3 3) = some (r1, r2, r3, r4) := by rw [if_neg (show ¬ (false = true) by decide)] at H; exact H
                clear H
                have H := H1
                clear H1
                have H' := Aside0.mk H
                clear H
                have p30 : 0 ≤ (x9_3 : Int) := of_decide_eq_true (by first | (with_reducible assumption) | assumption)
                have q30 : x9_3 < (a0.size : Int) := of_decide_eq_true (by first | (with_reducible assumption) | assumption)
                have hx30 := bt_at a0 x9_3
                replace p30 := eq_true p30
                replace q30 := eq_true q30
                go_wp2_with (first | (go_at_call 109; (with_reducible refine (lexpriorref04_digit.calls (bt a0 x9_3) false _ A31.out).mono ?_); rintro e w' ⟨rfl, ⟨nd, rfl⟩⟩; (try first | exact ⟨rfl, _, World.drewN_drewN _ _ _⟩ | exact ⟨rfl, _, Eq.trans (World.drewN_drewN _ _ _) (congrArg (World.drewN _) (Nat.add_assoc _ _ _))⟩)))
                repeat (go_quiet (first | (go_at_call 109; (with_reducible refine (lexpriorref04_digit.calls (bt a0 x9_3) false _ A31.out).mono ?_); rintro e w' ⟨rfl, ⟨nd, rfl⟩⟩; (try first | exact ⟨rfl, _, World.drewN_drewN _ _ _⟩ | exact ⟨rfl, _, Eq.trans (World.drewN_drewN _ _ _) (congrArg (World.drewN _) (Nat.add_assoc _ _ _))⟩))); try go_wp2_with (first | (go_at_call 109; (with_reducible refine (lexpriorref04_digit.calls (bt a0 x9_3) false _ A31.out).mono ?_); rintro e w' ⟨rfl, ⟨nd, rfl⟩⟩; (try first | exact ⟨rfl, _, World.drewN_drewN _ _ _⟩ | exact ⟨rfl, _, Eq.trans (World.drewN_drewN _ _ _) (congrArg (World.drewN _) (Nat.add_assoc _ _ _))⟩))))
                go_meet
                case rel => exact ⟨_, (x9_3), (3), (by first | rfl | (simp; done) | (simp [*]; done)), (by first | rfl | (simp; done) | (simp [*]; done)), H', ⟨by have := HJ10.out; have := HJ16.out; have := HK3.out; first | omega | exact Nat.le_refl _⟩, ⟨by repeat (first | (with_reducible first | exact HB.out | apply below_alloc | apply pw_below_drewN | apply below_drew1) | exact HB.out)⟩⟩
              ·rw [if_neg c29] at H
               exact absurd H (by simp)
             ·rw [if_neg c28] at H
              have c28b0 : decide (x9_3 < (a0.size : Int)) = false := decide_eq_false c28
              clear c28
              have H' := Aside0.mk H
              clear H
              go_wp2
              repeat (go_quiet (fail); try go_wp2)
              go_meet
              case rel => exact ⟨_, (x9_3), (3), (by first | rfl | (simp; done) | (simp [*]; done)), (by first | rfl | (simp; done) | (simp [*]; done)), H', ⟨by have := HJ10.out; have := HJ16.out; have := HK3.out; first | omega | exact Nat.le_refl _⟩, ⟨by repeat (first | (with_reducible first | exact HB.out | apply below_alloc | apply pw_below_drewN | apply below_drew1) | exact HB.out)⟩⟩
          ·replace c27 := Bool.eq_false_iff.mpr c27
           subst c27
           have H1 : (lexpriorref04_one.j8 kj16 a0 a1 x9_10 3) = some (r1, r2, r3, r4) := by rw [if_neg (show ¬ (false = true) by decide)] at H; exact H
           clear H
           have H := H1
           clear H1
           have H' := Aside0.mk H
           clear H
           go_wp2
           repeat (go_quiet (fail); try go_wp2)
           go_meet
           case rel => exact ⟨_, (x9_10), (3), (by first | rfl | (simp; done) | (simp [*]; done)), (by first | rfl | (simp; done) | (simp [*]; done)), H', ⟨by have := HJ10.out; have := HJ16.out; first | omega | exact Nat.le_refl _⟩, ⟨by repeat (first | (with_reducible first | exact HB.out | apply below_alloc | apply pw_below_drewN | apply below_drew1) | exact HB.out)⟩⟩
     ·replace c10 := Bool.eq_false_iff.mpr c10
      subst c10
      have H1 : ((lexpriorref04_small.f (bt a0 a1)).bind fun t144 => (if t144 = true then (lexpriorref04_one.l2 k a0 a1 a1 1) else ((lexpriorref04_capital.f (bt a0 a1)).bind fun t147 => (if t147 = true then (lexpriorref04_one.l3 k a0 a1 a1 2) else (if (bt a0 a1) = 34 then (lexpriorref04_one.l4 k a0 a1 (wrap64 (a1 + 1))) else ((lexpriorref04_marks.f).bind fun t149 => (lexpriorref04_one.l5 k a0 a1 t149 0))))))) = some (r1, r2, r3, r4) := by rw [if_neg (show ¬ (false = true) by decide)] at H; exact H
      clear H
      have H := H1
      clear H1
      replace H := Option.bind_eq_some_iff.mp H
      obtain ⟨t144, A330, H⟩ := H
      replace H : (if t144 = true then (lexpriorref04_one.l2 k a0 a1 a1 1) else ((lexpriorref04_capital.f (bt a0 a1)).bind fun t147 => (if t147 = true then (lexpriorref04_one.l3 k a0 a1 a1 2) else (if (bt a0 a1) = 34 then (lexpriorref04_one.l4 k a0 a1 (wrap64 (a1 + 1))) else ((lexpriorref04_marks.f).bind fun t149 => (lexpriorref04_one.l5 k a0 a1 t149 0)))))) = some (r1, r2, r3, r4) := H
      have A33 := Aside0.mk A330
      clear A330
      by_cases c34 : t144 = true
      ·subst c34
       have H1 : (lexpriorref04_one.l2 k a0 a1 a1 1) = some (r1, r2, r3, r4) := by rw [if_pos rfl] at H; exact H
       clear H
       have H := H1
       clear H1
       have H' := Aside0.mk H
       clear H
       go_wp2_with (first | (go_at_call 108; (with_reducible refine (lexpriorref04_date.calls k a0 a1 false _ A7.out).mono ?_); rintro e w' ⟨rfl, ⟨nd, rfl⟩⟩; (try first | exact ⟨rfl, _, World.drewN_drewN _ _ _⟩ | exact ⟨rfl, _, Eq.trans (World.drewN_drewN _ _ _) (congrArg (World.drewN _) (Nat.add_assoc _ _ _))⟩)) | (go_at_call 109; (with_reducible refine (lexpriorref04_digit.calls (bt a0 a1) false _ A9.out).mono ?_); rintro e w' ⟨rfl, ⟨nd, rfl⟩⟩; (try first | exact ⟨rfl, _, World.drewN_drewN _ _ _⟩ | exact ⟨rfl, _, Eq.trans (World.drewN_drewN _ _ _) (congrArg (World.drewN _) (Nat.add_assoc _ _ _))⟩)) | (go_at_call 110; (with_reducible refine (lexpriorref04_small.calls (bt a0 a1) true _ A33.out).mono ?_); rintro e w' ⟨rfl, ⟨nd, rfl⟩⟩; (try first | exact ⟨rfl, _, World.drewN_drewN _ _ _⟩ | exact ⟨rfl, _, Eq.trans (World.drewN_drewN _ _ _) (congrArg (World.drewN _) (Nat.add_assoc _ _ _))⟩)))
       repeat (go_quiet (first | (go_at_call 108; (with_reducible refine (lexpriorref04_date.calls k a0 a1 false _ A7.out).mono ?_); rintro e w' ⟨rfl, ⟨nd, rfl⟩⟩; (try first | exact ⟨rfl, _, World.drewN_drewN _ _ _⟩ | exact ⟨rfl, _, Eq.trans (World.drewN_drewN _ _ _) (congrArg (World.drewN _) (Nat.add_assoc _ _ _))⟩)) | (go_at_call 109; (with_reducible refine (lexpriorref04_digit.calls (bt a0 a1) false _ A9.out).mono ?_); rintro e w' ⟨rfl, ⟨nd, rfl⟩⟩; (try first | exact ⟨rfl, _, World.drewN_drewN _ _ _⟩ | exact ⟨rfl, _, Eq.trans (World.drewN_drewN _ _ _) (congrArg (World.drewN _) (Nat.add_assoc _ _ _))⟩)) | (go_at_call 110; (with_reducible refine (lexpriorref04_small.calls (bt a0 a1) true _ A33.out).mono ?_); rintro e w' ⟨rfl, ⟨nd, rfl⟩⟩; (try first | exact ⟨rfl, _, World.drewN_drewN _ _ _⟩ | exact ⟨rfl, _, Eq.trans (World.drewN_drewN _ _ _) (congrArg (World.drewN _) (Nat.add_assoc _ _ _))⟩))); try go_wp2_with (first | (go_at_call 108; (with_reducible refine (lexpriorref04_date.calls k a0 a1 false _ A7.out).mono ?_); rintro e w' ⟨rfl, ⟨nd, rfl⟩⟩; (try first | exact ⟨rfl, _, World.drewN_drewN _ _ _⟩ | exact ⟨rfl, _, Eq.trans (World.drewN_drewN _ _ _) (congrArg (World.drewN _) (Nat.add_assoc _ _ _))⟩)) | (go_at_call 109; (with_reducible refine (lexpriorref04_digit.calls (bt a0 a1) false _ A9.out).mono ?_); rintro e w' ⟨rfl, ⟨nd, rfl⟩⟩; (try first | exact ⟨rfl, _, World.drewN_drewN _ _ _⟩ | exact ⟨rfl, _, Eq.trans (World.drewN_drewN _ _ _) (congrArg (World.drewN _) (Nat.add_assoc _ _ _))⟩)) | (go_at_call 110; (with_reducible refine (lexpriorref04_small.calls (bt a0 a1) true _ A33.out).mono ?_); rintro e w' ⟨rfl, ⟨nd, rfl⟩⟩; (try first | exact ⟨rfl, _, World.drewN_drewN _ _ _⟩ | exact ⟨rfl, _, Eq.trans (World.drewN_drewN _ _ _) (congrArg (World.drewN _) (Nat.add_assoc _ _ _))⟩))))
       go_loopg [9] k (fun kq v9 w' => ∃ (x9_1 : Int), v9 = .int .i64 x9_1 ∧ Aside0 (lexpriorref04_one.l2 kq a0 a1 x9_1 1 = some (r1, r2, r3, r4)) ∧ Aside0 (kq ≤ k) ∧ Aside0 (Below w.heap.size w w'))
       case atStart => exact ⟨(a1), (by first | rfl | (simp; done) | (simp [*]; done)), H', ⟨Nat.le_refl _⟩, ⟨by repeat (first | (with_reducible first | exact HB.out | apply below_alloc | apply pw_below_drewN | apply below_drew1) | exact HB.out)⟩⟩
       case round =>
        clear H'
        obtain ⟨x9_1, rfl, HA, HK1, HB⟩ := hrel
        cases gk with
        | zero => exact absurd HA.out (by simp [lexpriorref04_one.l2])
        | succ k1 =>
         have H := HA.out
         clear HA
         simp only [lexpriorref04_one.l2] at H
         by_cases c35 : x9_1 < (a0.size : Int)
         ·rw [if_pos c35] at H
          have c35b0 : decide (x9_1 < (a0.size : Int)) = true := decide_eq_true c35
          clear c35
          by_cases c36 : 0 ≤ x9_1
          ·rw [if_pos c36] at H
           have c36b0 : decide (0 ≤ x9_1) = true := decide_eq_true c36
           clear c36
           replace H := Option.bind_eq_some_iff.mp H
           obtain ⟨t145, A380, H⟩ := H
           replace H : (if t145 = true then (lexpriorref04_one.l2 k1 a0 a1 (wrap64 (x9_1 + 1)) 1) else ((lexpriorref04_digit.f (bt a0 x9_1)).bind fun t146 => (if t146 = true then (lexpriorref04_one.l2 k1 a0 a1 (wrap64 (x9_1 + 1)) 1) else (if (bt a0 x9_1) = 95 then (lexpriorref04_one.l2 k1 a0 a1 (wrap64 (x9_1 + 1)) 1) else (lexpriorref04_one.j8 k1 a0 a1 x9_1 1))))) = some (r1, r2, r3, r4) := H
           have A38 := Aside0.mk A380
           clear A380
           by_cases c39 : t145 = true
           ·subst c39
            have H1 : (lexpriorref04_one.l2 k1 a0 a1 (wrap64 (x9_1 + 1)) 1) = some (r1, r2, r3, r4) := by rw [if_pos rfl] at H; exact H
            clear H
            have H := H1
            clear H1
            have H' := Aside0.mk H
            clear H
            have p37 : 0 ≤ (x9_1 : Int) := of_decide_eq_true (by first | (with_reducible assumption) | assumption)
            have q37 : x9_1 < (a0.size : Int) := of_decide_eq_true (by first | (with_reducible assumption) | assumption)
            have hx37 := bt_at a0 x9_1
            replace p37 := eq_true p37
            replace q37 := eq_true q37
            go_wp2_with (first | (go_at_call 110; (with_reducible refine (lexpriorref04_small.calls (bt a0 x9_1) true _ A38.out).mono ?_); rintro e w' ⟨rfl, ⟨nd, rfl⟩⟩; (try first | exact ⟨rfl, _, World.drewN_drewN _ _ _⟩ | exact ⟨rfl, _, Eq.trans (World.drewN_drewN _ _ _) (congrArg (World.drewN _) (Nat.add_assoc _ _ _))⟩)))
            repeat (go_quiet (first | (go_at_call 110; (with_reducible refine (lexpriorref04_small.calls (bt a0 x9_1) true _ A38.out).mono ?_); rintro e w' ⟨rfl, ⟨nd, rfl⟩⟩; (try first | exact ⟨rfl, _, World.drewN_drewN _ _ _⟩ | exact ⟨rfl, _, Eq.trans (World.drewN_drewN _ _ _) (congrArg (World.drewN _) (Nat.add_assoc _ _ _))⟩))); try go_wp2_with (first | (go_at_call 110; (with_reducible refine (lexpriorref04_small.calls (bt a0 x9_1) true _ A38.out).mono ?_); rintro e w' ⟨rfl, ⟨nd, rfl⟩⟩; (try first | exact ⟨rfl, _, World.drewN_drewN _ _ _⟩ | exact ⟨rfl, _, Eq.trans (World.drewN_drewN _ _ _) (congrArg (World.drewN _) (Nat.add_assoc _ _ _))⟩))))
            go_roundg k1
            case measure => have := HK1.out; omega
            case rel => exact ⟨(wrap64 (x9_1 + 1)), (by first | rfl | (simp; done) | (simp [*]; done)), H', ⟨by have := HK1.out; omega⟩, ⟨by repeat (first | (with_reducible first | exact HB.out | apply below_alloc | apply pw_below_drewN | apply below_drew1) | exact HB.out)⟩⟩
           ·replace c39 := Bool.eq_false_iff.mpr c39
            subst c39
            have H1 : ((lexpriorref04_digit.f (bt a0 x9_1)).bind fun t146 => (if t146 = true then (lexpriorref04_one.l2 k1 a0 a1 (wrap64 (x9_1 + 1)) 1) else (if (bt a0 x9_1) = 95 then (lexpriorref04_one.l2 k1 a0 a1 (wrap64 (x9_1 + 1)) 1) else (lexpriorref04_one.j8 k1 a0 a1 x9_1 1)))) = some (r1, r2, r3, r4) := by rw [if_neg (show ¬ (false = true) by decide)] at H; exact H
            clear H
            have H := H1
            clear H1
            replace H := Option.bind_eq_some_iff.mp H
            obtain ⟨t146, A410, H⟩ := H
            replace H : (if t146 = true then (lexpriorref04_one.l2 k1 a0 a1 (wrap64 (x9_1 + 1)) 1) else (if (bt a0 x9_1) = 95 then (lexpriorref04_one.l2 k1 a0 a1 (wrap64 (x9_1 + 1)) 1) else (lexpriorref04_one.j8 k1 a0 a1 x9_1 1))) = some (r1, r2, r3, r4) := H
            have A41 := Aside0.mk A410
            clear A410
            by_cases c42 : t146 = true
            ·subst c42
             have H1 : (lexpriorref04_one.l2 k1 a0 a1 (wrap64 (x9_1 + 1)) 1) = some (r1, r2, r3, r4) := by rw [if_pos rfl] at H; exact H
             clear H
             have H := H1
             clear H1
             have H' := Aside0.mk H
             clear H
             have p37 : 0 ≤ (x9_1 : Int) := of_decide_eq_true (by first | (with_reducible assumption) | assumption)
             have q37 : x9_1 < (a0.size : Int) := of_decide_eq_true (by first | (with_reducible assumption) | assumption)
             have hx37 := bt_at a0 x9_1
             replace p37 := eq_true p37
             replace q37 := eq_true q37
             go_wp2_with (first | (go_at_call 110; (with_reducible refine (lexpriorref04_small.calls (bt a0 x9_1) false _ A38.out).mono ?_); rintro e w' ⟨rfl, ⟨nd, rfl⟩⟩; (try first | exact ⟨rfl, _, World.drewN_drewN _ _ _⟩ | exact ⟨rfl, _, Eq.trans (World.drewN_drewN _ _ _) (congrArg (World.drewN _) (Nat.add_assoc _ _ _))⟩); have p40 : 0 ≤ (x9_1 : Int) := of_decide_eq_true (by first | (with_reducible assumption) | assumption); have q40 : x9_1 < (a0.size : Int) := of_decide_eq_true (by first | (with_reducible assumption) | assumption); have hx40 := bt_at a0 x9_1; replace p40 := eq_true p40; replace q40 := eq_true q40) | (go_at_call 109; (with_reducible refine (lexpriorref04_digit.calls (bt a0 x9_1) true _ A41.out).mono ?_); rintro e w' ⟨rfl, ⟨nd, rfl⟩⟩; (try first | exact ⟨rfl, _, World.drewN_drewN _ _ _⟩ | exact ⟨rfl, _, Eq.trans (World.drewN_drewN _ _ _) (congrArg (World.drewN _) (Nat.add_assoc _ _ _))⟩)))
             repeat (go_quiet (first | (go_at_call 110; (with_reducible refine (lexpriorref04_small.calls (bt a0 x9_1) false _ A38.out).mono ?_); rintro e w' ⟨rfl, ⟨nd, rfl⟩⟩; (try first | exact ⟨rfl, _, World.drewN_drewN _ _ _⟩ | exact ⟨rfl, _, Eq.trans (World.drewN_drewN _ _ _) (congrArg (World.drewN _) (Nat.add_assoc _ _ _))⟩); have p40 : 0 ≤ (x9_1 : Int) := of_decide_eq_true (by first | (with_reducible assumption) | assumption); have q40 : x9_1 < (a0.size : Int) := of_decide_eq_true (by first | (with_reducible assumption) | assumption); have hx40 := bt_at a0 x9_1; replace p40 := eq_true p40; replace q40 := eq_true q40) | (go_at_call 109; (with_reducible refine (lexpriorref04_digit.calls (bt a0 x9_1) true _ A41.out).mono ?_); rintro e w' ⟨rfl, ⟨nd, rfl⟩⟩; (try first | exact ⟨rfl, _, World.drewN_drewN _ _ _⟩ | exact ⟨rfl, _, Eq.trans (World.drewN_drewN _ _ _) (congrArg (World.drewN _) (Nat.add_assoc _ _ _))⟩))); try go_wp2_with (first | (go_at_call 110; (with_reducible refine (lexpriorref04_small.calls (bt a0 x9_1) false _ A38.out).mono ?_); rintro e w' ⟨rfl, ⟨nd, rfl⟩⟩; (try first | exact ⟨rfl, _, World.drewN_drewN _ _ _⟩ | exact ⟨rfl, _, Eq.trans (World.drewN_drewN _ _ _) (congrArg (World.drewN _) (Nat.add_assoc _ _ _))⟩); have p40 : 0 ≤ (x9_1 : Int) := of_decide_eq_true (by first | (with_reducible assumption) | assumption); have q40 : x9_1 < (a0.size : Int) := of_decide_eq_true (by first | (with_reducible assumption) | assumption); have hx40 := bt_at a0 x9_1; replace p40 := eq_true p40; replace q40 := eq_true q40) | (go_at_call 109; (with_reducible refine (lexpriorref04_digit.calls (bt a0 x9_1) true _ A41.out).mono ?_); rintro e w' ⟨rfl, ⟨nd, rfl⟩⟩; (try first | exact ⟨rfl, _, World.drewN_drewN _ _ _⟩ | exact ⟨rfl, _, Eq.trans (World.drewN_drewN _ _ _) (congrArg (World.drewN _) (Nat.add_assoc _ _ _))⟩))))
             go_roundg k1
             case measure => have := HK1.out; omega
             case rel => exact ⟨(wrap64 (x9_1 + 1)), (by first | rfl | (simp; done) | (simp [*]; done)), H', ⟨by have := HK1.out; omega⟩, ⟨by repeat (first | (with_reducible first | exact HB.out | apply below_alloc | apply pw_below_drewN | apply below_drew1) | exact HB.out)⟩⟩
            ·replace c42 := Bool.eq_false_iff.mpr c42
             subst c42
             have H1 : (if (bt a0 x9_1) = 95 then (lexpriorref04_one.l2 k1 a0 a1 (wrap64 (x9_1 + 1)) 1) else (lexpriorref04_one.j8 k1 a0 a1 x9_1 1)) = some (r1, r2, r3, r4) := by rw [if_neg (show ¬ (false = true) by decide)] at H; exact H
             clear H
             have H := H1
             clear H1
             by_cases c44 : (bt a0 x9_1) = 95
             ·rw [if_pos c44] at H
              have c44b0 : ((bt a0 x9_1) == 95) = true := beq_iff_eq.mpr c44
              have c44b1 : ((bt a0 x9_1) != 95) = false := bne_eq_false_iff_eq.mpr c44
              clear c44
              have H' := Aside0.mk H
              clear H
              have p37 : 0 ≤ (x9_1 : Int) := of_decide_eq_true (by first | (with_reducible assumption) | assumption)
              have q37 : x9_1 < (a0.size : Int) := of_decide_eq_true (by first | (with_reducible assumption) | assumption)
              have hx37 := bt_at a0 x9_1
              replace p37 := eq_true p37
              replace q37 := eq_true q37
              go_wp2_with (first | (go_at_call 110; (with_reducible refine (lexpriorref04_small.calls (bt a0 x9_1) false _ A38.out).mono ?_); rintro e w' ⟨rfl, ⟨nd, rfl⟩⟩; (try first | exact ⟨rfl, _, World.drewN_drewN _ _ _⟩ | exact ⟨rfl, _, Eq.trans (World.drewN_drewN _ _ _) (congrArg (World.drewN _) (Nat.add_assoc _ _ _))⟩); have p40 : 0 ≤ (x9_1 : Int) := of_decide_eq_true (by first | (with_reducible assumption) | assumption); have q40 : x9_1 < (a0.size : Int) := of_decide_eq_true (by first | (with_reducible assumption) | assumption); have hx40 := bt_at a0 x9_1; replace p40 := eq_true p40; replace q40 := eq_true q40) | (go_at_call 109; (with_reducible refine (lexpriorref04_digit.calls (bt a0 x9_1) false _ A41.out).mono ?_); rintro e w' ⟨rfl, ⟨nd, rfl⟩⟩; (try first | exact ⟨rfl, _, World.drewN_drewN _ _ _⟩ | exact ⟨rfl, _, Eq.trans (World.drewN_drewN _ _ _) (congrArg (World.drewN _) (Nat.add_assoc _ _ _))⟩); have p43 : 0 ≤ (x9_1 : Int) := of_decide_eq_true (by first | (with_reducible assumption) | assumption); have q43 : x9_1 < (a0.size : Int) := of_decide_eq_true (by first | (with_reducible assumption) | assumption); have hx43 := bt_at a0 x9_1; replace p43 := eq_true p43; replace q43 := eq_true q43))
              repeat (go_quiet (first | (go_at_call 110; (with_reducible refine (lexpriorref04_small.calls (bt a0 x9_1) false _ A38.out).mono ?_); rintro e w' ⟨rfl, ⟨nd, rfl⟩⟩; (try first | exact ⟨rfl, _, World.drewN_drewN _ _ _⟩ | exact ⟨rfl, _, Eq.trans (World.drewN_drewN _ _ _) (congrArg (World.drewN _) (Nat.add_assoc _ _ _))⟩); have p40 : 0 ≤ (x9_1 : Int) := of_decide_eq_true (by first | (with_reducible assumption) | assumption); have q40 : x9_1 < (a0.size : Int) := of_decide_eq_true (by first | (with_reducible assumption) | assumption); have hx40 := bt_at a0 x9_1; replace p40 := eq_true p40; replace q40 := eq_true q40) | (go_at_call 109; (with_reducible refine (lexpriorref04_digit.calls (bt a0 x9_1) false _ A41.out).mono ?_); rintro e w' ⟨rfl, ⟨nd, rfl⟩⟩; (try first | exact ⟨rfl, _, World.drewN_drewN _ _ _⟩ | exact ⟨rfl, _, Eq.trans (World.drewN_drewN _ _ _) (congrArg (World.drewN _) (Nat.add_assoc _ _ _))⟩); have p43 : 0 ≤ (x9_1 : Int) := of_decide_eq_true (by first | (with_reducible assumption) | assumption); have q43 : x9_1 < (a0.size : Int) := of_decide_eq_true (by first | (with_reducible assumption) | assumption); have hx43 := bt_at a0 x9_1; replace p43 := eq_true p43; replace q43 := eq_true q43)); try go_wp2_with (first | (go_at_call 110; (with_reducible refine (lexpriorref04_small.calls (bt a0 x9_1) false _ A38.out).mono ?_); rintro e w' ⟨rfl, ⟨nd, rfl⟩⟩; (try first | exact ⟨rfl, _, World.drewN_drewN _ _ _⟩ | exact ⟨rfl, _, Eq.trans (World.drewN_drewN _ _ _) (congrArg (World.drewN _) (Nat.add_assoc _ _ _))⟩); have p40 : 0 ≤ (x9_1 : Int) := of_decide_eq_true (by first | (with_reducible assumption) | assumption); have q40 : x9_1 < (a0.size : Int) := of_decide_eq_true (by first | (with_reducible assumption) | assumption); have hx40 := bt_at a0 x9_1; replace p40 := eq_true p40; replace q40 := eq_true q40) | (go_at_call 109; (with_reducible refine (lexpriorref04_digit.calls (bt a0 x9_1) false _ A41.out).mono ?_); rintro e w' ⟨rfl, ⟨nd, rfl⟩⟩; (try first | exact ⟨rfl, _, World.drewN_drewN _ _ _⟩ | exact ⟨rfl, _, Eq.trans (World.drewN_drewN _ _ _) (congrArg (World.drewN _) (Nat.add_assoc _ _ _))⟩); have p43 : 0 ≤ (x9_1 : Int) := of_decide_eq_true (by first | (with_reducible assumption) | assumption); have q43 : x9_1 < (a0.size : Int) := of_decide_eq_true (by first | (with_reducible assumption) | assumption); have hx43 := bt_at a0 x9_1; replace p43 := eq_true p43; replace q43 := eq_true q43)))
              go_roundg k1
              case measure => have := HK1.out; omega
              case rel => exact ⟨(wrap64 (x9_1 + 1)), (by first | rfl | (simp; done) | (simp [*]; done)), H', ⟨by have := HK1.out; omega⟩, ⟨by repeat (first | (with_reducible first | exact HB.out | apply below_alloc | apply pw_below_drewN | apply below_drew1) | exact HB.out)⟩⟩
             ·rw [if_neg c44] at H
              have c44b0 : ((bt a0 x9_1) == 95) = false := beq_eq_false_iff_ne.mpr c44
              have c44b1 : ((bt a0 x9_1) != 95) = true := bne_iff_ne.mpr c44
              have H' := Aside0.mk H
              clear H
              have p37 : 0 ≤ (x9_1 : Int) := of_decide_eq_true (by first | (with_reducible assumption) | assumption)
              have q37 : x9_1 < (a0.size : Int) := of_decide_eq_true (by first | (with_reducible assumption) | assumption)
              have hx37 := bt_at a0 x9_1
              replace p37 := eq_true p37
              replace q37 := eq_true q37
              go_wp2_with (first | (go_at_call 110; (with_reducible refine (lexpriorref04_small.calls (bt a0 x9_1) false _ A38.out).mono ?_); rintro e w' ⟨rfl, ⟨nd, rfl⟩⟩; (try first | exact ⟨rfl, _, World.drewN_drewN _ _ _⟩ | exact ⟨rfl, _, Eq.trans (World.drewN_drewN _ _ _) (congrArg (World.drewN _) (Nat.add_assoc _ _ _))⟩); have p40 : 0 ≤ (x9_1 : Int) := of_decide_eq_true (by first | (with_reducible assumption) | assumption); have q40 : x9_1 < (a0.size : Int) := of_decide_eq_true (by first | (with_reducible assumption) | assumption); have hx40 := bt_at a0 x9_1; replace p40 := eq_true p40; replace q40 := eq_true q40) | (go_at_call 109; (with_reducible refine (lexpriorref04_digit.calls (bt a0 x9_1) false _ A41.out).mono ?_); rintro e w' ⟨rfl, ⟨nd, rfl⟩⟩; (try first | exact ⟨rfl, _, World.drewN_drewN _ _ _⟩ | exact ⟨rfl, _, Eq.trans (World.drewN_drewN _ _ _) (congrArg (World.drewN _) (Nat.add_assoc _ _ _))⟩); have p43 : 0 ≤ (x9_1 : Int) := of_decide_eq_true (by first | (with_reducible assumption) | assumption); have q43 : x9_1 < (a0.size : Int) := of_decide_eq_true (by first | (with_reducible assumption) | assumption); have hx43 := bt_at a0 x9_1; replace p43 := eq_true p43; replace q43 := eq_true q43))
              repeat (go_quiet (first | (go_at_call 110; (with_reducible refine (lexpriorref04_small.calls (bt a0 x9_1) false _ A38.out).mono ?_); rintro e w' ⟨rfl, ⟨nd, rfl⟩⟩; (try first | exact ⟨rfl, _, World.drewN_drewN _ _ _⟩ | exact ⟨rfl, _, Eq.trans (World.drewN_drewN _ _ _) (congrArg (World.drewN _) (Nat.add_assoc _ _ _))⟩); have p40 : 0 ≤ (x9_1 : Int) := of_decide_eq_true (by first | (with_reducible assumption) | assumption); have q40 : x9_1 < (a0.size : Int) := of_decide_eq_true (by first | (with_reducible assumption) | assumption); have hx40 := bt_at a0 x9_1; replace p40 := eq_true p40; replace q40 := eq_true q40) | (go_at_call 109; (with_reducible refine (lexpriorref04_digit.calls (bt a0 x9_1) false _ A41.out).mono ?_); rintro e w' ⟨rfl, ⟨nd, rfl⟩⟩; (try first | exact ⟨rfl, _, World.drewN_drewN _ _ _⟩ | exact ⟨rfl, _, Eq.trans (World.drewN_drewN _ _ _) (congrArg (World.drewN _) (Nat.add_assoc _ _ _))⟩); have p43 : 0 ≤ (x9_1 : Int) := of_decide_eq_true (by first | (with_reducible assumption) | assumption); have q43 : x9_1 < (a0.size : Int) := of_decide_eq_true (by first | (with_reducible assumption) | assumption); have hx43 := bt_at a0 x9_1; replace p43 := eq_true p43; replace q43 := eq_true q43)); try go_wp2_with (first | (go_at_call 110; (with_reducible refine (lexpriorref04_small.calls (bt a0 x9_1) false _ A38.out).mono ?_); rintro e w' ⟨rfl, ⟨nd, rfl⟩⟩; (try first | exact ⟨rfl, _, World.drewN_drewN _ _ _⟩ | exact ⟨rfl, _, Eq.trans (World.drewN_drewN _ _ _) (congrArg (World.drewN _) (Nat.add_assoc _ _ _))⟩); have p40 : 0 ≤ (x9_1 : Int) := of_decide_eq_true (by first | (with_reducible assumption) | assumption); have q40 : x9_1 < (a0.size : Int) := of_decide_eq_true (by first | (with_reducible assumption) | assumption); have hx40 := bt_at a0 x9_1; replace p40 := eq_true p40; replace q40 := eq_true q40) | (go_at_call 109; (with_reducible refine (lexpriorref04_digit.calls (bt a0 x9_1) false _ A41.out).mono ?_); rintro e w' ⟨rfl, ⟨nd, rfl⟩⟩; (try first | exact ⟨rfl, _, World.drewN_drewN _ _ _⟩ | exact ⟨rfl, _, Eq.trans (World.drewN_drewN _ _ _) (congrArg (World.drewN _) (Nat.add_assoc _ _ _))⟩); have p43 : 0 ≤ (x9_1 : Int) := of_decide_eq_true (by first | (with_reducible assumption) | assumption); have q43 : x9_1 < (a0.size : Int) := of_decide_eq_true (by first | (with_reducible assumption) | assumption); have hx43 := bt_at a0 x9_1; replace p43 := eq_true p43; replace q43 := eq_true q43)))
              go_meet
              case rel => exact ⟨_, (x9_1), (1), (by first | rfl | (simp; done) | (simp [*]; done)), (by first | rfl | (simp; done) | (simp [*]; done)), H', ⟨by have := HK1.out; first | omega | exact Nat.le_refl _⟩, ⟨by repeat (first | (with_reducible first | exact HB.out | apply below_alloc | apply pw_below_drewN | apply below_drew1) | exact HB.out)⟩⟩
          ·rw [if_neg c36] at H
           exact absurd H (by simp)
         ·rw [if_neg c35] at H
          have c35b0 : decide (x9_1 < (a0.size : Int)) = false := decide_eq_false c35
          clear c35
          have H' := Aside0.mk H
          clear H
          go_wp2
          repeat (go_quiet (fail); try go_wp2)
          go_meet
          case rel => exact ⟨_, (x9_1), (1), (by first | rfl | (simp; done) | (simp [*]; done)), (by first | rfl | (simp; done) | (simp [*]; done)), H', ⟨by have := HK1.out; first | omega | exact Nat.le_refl _⟩, ⟨by repeat (first | (with_reducible first | exact HB.out | apply below_alloc | apply pw_below_drewN | apply below_drew1) | exact HB.out)⟩⟩
      ·replace c34 := Bool.eq_false_iff.mpr c34
       subst c34
       have H1 : ((lexpriorref04_capital.f (bt a0 a1)).bind fun t147 => (if t147 = true then (lexpriorref04_one.l3 k a0 a1 a1 2) else (if (bt a0 a1) = 34 then (lexpriorref04_one.l4 k a0 a1 (wrap64 (a1 + 1))) else ((lexpriorref04_marks.f).bind fun t149 => (lexpriorref04_one.l5 k a0 a1 t149 0))))) = some (r1, r2, r3, r4) := by rw [if_neg (show ¬ (false = true) by decide)] at H; exact H
       clear H
       have H := H1
       clear H1
       replace H := Option.bind_eq_some_iff.mp H
       obtain ⟨t147, A450, H⟩ := H
       replace H : (if t147 = true then (lexpriorref04_one.l3 k a0 a1 a1 2) else (if (bt a0 a1) = 34 then (lexpriorref04_one.l4 k a0 a1 (wrap64 (a1 + 1))) else ((lexpriorref04_marks.f).bind fun t149 => (lexpriorref04_one.l5 k a0 a1 t149 0)))) = some (r1, r2, r3, r4) := H
       have A45 := Aside0.mk A450
       clear A450
       by_cases c46 : t147 = true
       ·subst c46
        have H1 : (lexpriorref04_one.l3 k a0 a1 a1 2) = some (r1, r2, r3, r4) := by rw [if_pos rfl] at H; exact H
        clear H
        have H := H1
        clear H1
        have H' := Aside0.mk H
        clear H
        go_wp2_with (first | (go_at_call 108; (with_reducible refine (lexpriorref04_date.calls k a0 a1 false _ A7.out).mono ?_); rintro e w' ⟨rfl, ⟨nd, rfl⟩⟩; (try first | exact ⟨rfl, _, World.drewN_drewN _ _ _⟩ | exact ⟨rfl, _, Eq.trans (World.drewN_drewN _ _ _) (congrArg (World.drewN _) (Nat.add_assoc _ _ _))⟩)) | (go_at_call 109; (with_reducible refine (lexpriorref04_digit.calls (bt a0 a1) false _ A9.out).mono ?_); rintro e w' ⟨rfl, ⟨nd, rfl⟩⟩; (try first | exact ⟨rfl, _, World.drewN_drewN _ _ _⟩ | exact ⟨rfl, _, Eq.trans (World.drewN_drewN _ _ _) (congrArg (World.drewN _) (Nat.add_assoc _ _ _))⟩)) | (go_at_call 110; (with_reducible refine (lexpriorref04_small.calls (bt a0 a1) false _ A33.out).mono ?_); rintro e w' ⟨rfl, ⟨nd, rfl⟩⟩; (try first | exact ⟨rfl, _, World.drewN_drewN _ _ _⟩ | exact ⟨rfl, _, Eq.trans (World.drewN_drewN _ _ _) (congrArg (World.drewN _) (Nat.add_assoc _ _ _))⟩)) | (go_at_call 111; (with_reducible refine (lexpriorref04_capital.calls (bt a0 a1) true _ A45.out).mono ?_); rintro e w' ⟨rfl, ⟨nd, rfl⟩⟩; (try first | exact ⟨rfl, _, World.drewN_drewN _ _ _⟩ | exact ⟨rfl, _, Eq.trans (World.drewN_drewN _ _ _) (congrArg (World.drewN _) (Nat.add_assoc _ _ _))⟩)))
        repeat (go_quiet (first | (go_at_call 108; (with_reducible refine (lexpriorref04_date.calls k a0 a1 false _ A7.out).mono ?_); rintro e w' ⟨rfl, ⟨nd, rfl⟩⟩; (try first | exact ⟨rfl, _, World.drewN_drewN _ _ _⟩ | exact ⟨rfl, _, Eq.trans (World.drewN_drewN _ _ _) (congrArg (World.drewN _) (Nat.add_assoc _ _ _))⟩)) | (go_at_call 109; (with_reducible refine (lexpriorref04_digit.calls (bt a0 a1) false _ A9.out).mono ?_); rintro e w' ⟨rfl, ⟨nd, rfl⟩⟩; (try first | exact ⟨rfl, _, World.drewN_drewN _ _ _⟩ | exact ⟨rfl, _, Eq.trans (World.drewN_drewN _ _ _) (congrArg (World.drewN _) (Nat.add_assoc _ _ _))⟩)) | (go_at_call 110; (with_reducible refine (lexpriorref04_small.calls (bt a0 a1) false _ A33.out).mono ?_); rintro e w' ⟨rfl, ⟨nd, rfl⟩⟩; (try first | exact ⟨rfl, _, World.drewN_drewN _ _ _⟩ | exact ⟨rfl, _, Eq.trans (World.drewN_drewN _ _ _) (congrArg (World.drewN _) (Nat.add_assoc _ _ _))⟩)) | (go_at_call 111; (with_reducible refine (lexpriorref04_capital.calls (bt a0 a1) true _ A45.out).mono ?_); rintro e w' ⟨rfl, ⟨nd, rfl⟩⟩; (try first | exact ⟨rfl, _, World.drewN_drewN _ _ _⟩ | exact ⟨rfl, _, Eq.trans (World.drewN_drewN _ _ _) (congrArg (World.drewN _) (Nat.add_assoc _ _ _))⟩))); try go_wp2_with (first | (go_at_call 108; (with_reducible refine (lexpriorref04_date.calls k a0 a1 false _ A7.out).mono ?_); rintro e w' ⟨rfl, ⟨nd, rfl⟩⟩; (try first | exact ⟨rfl, _, World.drewN_drewN _ _ _⟩ | exact ⟨rfl, _, Eq.trans (World.drewN_drewN _ _ _) (congrArg (World.drewN _) (Nat.add_assoc _ _ _))⟩)) | (go_at_call 109; (with_reducible refine (lexpriorref04_digit.calls (bt a0 a1) false _ A9.out).mono ?_); rintro e w' ⟨rfl, ⟨nd, rfl⟩⟩; (try first | exact ⟨rfl, _, World.drewN_drewN _ _ _⟩ | exact ⟨rfl, _, Eq.trans (World.drewN_drewN _ _ _) (congrArg (World.drewN _) (Nat.add_assoc _ _ _))⟩)) | (go_at_call 110; (with_reducible refine (lexpriorref04_small.calls (bt a0 a1) false _ A33.out).mono ?_); rintro e w' ⟨rfl, ⟨nd, rfl⟩⟩; (try first | exact ⟨rfl, _, World.drewN_drewN _ _ _⟩ | exact ⟨rfl, _, Eq.trans (World.drewN_drewN _ _ _) (congrArg (World.drewN _) (Nat.add_assoc _ _ _))⟩)) | (go_at_call 111; (with_reducible refine (lexpriorref04_capital.calls (bt a0 a1) true _ A45.out).mono ?_); rintro e w' ⟨rfl, ⟨nd, rfl⟩⟩; (try first | exact ⟨rfl, _, World.drewN_drewN _ _ _⟩ | exact ⟨rfl, _, Eq.trans (World.drewN_drewN _ _ _) (congrArg (World.drewN _) (Nat.add_assoc _ _ _))⟩))))
        go_loopg [9] k (fun kq v9 w' => ∃ (x9_1 : Int), v9 = .int .i64 x9_1 ∧ Aside0 (lexpriorref04_one.l3 kq a0 a1 x9_1 2 = some (r1, r2, r3, r4)) ∧ Aside0 (kq ≤ k) ∧ Aside0 (Below w.heap.size w w'))
        case atStart => exact ⟨(a1), (by first | rfl | (simp; done) | (simp [*]; done)), H', ⟨Nat.le_refl _⟩, ⟨by repeat (first | (with_reducible first | exact HB.out | apply below_alloc | apply pw_below_drewN | apply below_drew1) | exact HB.out)⟩⟩
        case round =>
         clear H'
         obtain ⟨x9_1, rfl, HA, HK1, HB⟩ := hrel
         cases gk with
         | zero => exact absurd HA.out (by simp [lexpriorref04_one.l3])
         | succ k1 =>
          have H := HA.out
          clear HA
          simp only [lexpriorref04_one.l3] at H
          by_cases c47 : x9_1 < (a0.size : Int)
          ·rw [if_pos c47] at H
           have c47b0 : decide (x9_1 < (a0.size : Int)) = true := decide_eq_true c47
           clear c47
           by_cases c48 : 0 ≤ x9_1
           ·rw [if_pos c48] at H
            have c48b0 : decide (0 ≤ x9_1) = true := decide_eq_true c48
            clear c48
            replace H := Option.bind_eq_some_iff.mp H
            obtain ⟨t148, A500, H⟩ := H
            replace H : (if t148 = true then (lexpriorref04_one.l3 k1 a0 a1 (wrap64 (x9_1 + 1)) 2) else (lexpriorref04_one.j8 k1 a0 a1 x9_1 2)) = some (r1, r2, r3, r4) := H
            have A50 := Aside0.mk A500
            clear A500
            by_cases c51 : t148 = true
            ·subst c51
             have H1 : (lexpriorref04_one.l3 k1 a0 a1 (wrap64 (x9_1 + 1)) 2) = some (r1, r2, r3, r4) := by rw [if_pos rfl] at H; exact H
             clear H
             have H := H1
             clear H1
             have H' := Aside0.mk H
             clear H
             have p49 : 0 ≤ (x9_1 : Int) := of_decide_eq_true (by first | (with_reducible assumption) | assumption)
             have q49 : x9_1 < (a0.size : Int) := of_decide_eq_true (by first | (with_reducible assumption) | assumption)
             have hx49 := bt_at a0 x9_1
             replace p49 := eq_true p49
             replace q49 := eq_true q49
             go_wp2_with (first | (go_at_call 112; (with_reducible refine (lexpriorref04_word.calls (bt a0 x9_1) true _ A50.out).mono ?_); rintro e w' ⟨rfl, ⟨nd, rfl⟩⟩; (try first | exact ⟨rfl, _, World.drewN_drewN _ _ _⟩ | exact ⟨rfl, _, Eq.trans (World.drewN_drewN _ _ _) (congrArg (World.drewN _) (Nat.add_assoc _ _ _))⟩)))
             repeat (go_quiet (first | (go_at_call 112; (with_reducible refine (lexpriorref04_word.calls (bt a0 x9_1) true _ A50.out).mono ?_); rintro e w' ⟨rfl, ⟨nd, rfl⟩⟩; (try first | exact ⟨rfl, _, World.drewN_drewN _ _ _⟩ | exact ⟨rfl, _, Eq.trans (World.drewN_drewN _ _ _) (congrArg (World.drewN _) (Nat.add_assoc _ _ _))⟩))); try go_wp2_with (first | (go_at_call 112; (with_reducible refine (lexpriorref04_word.calls (bt a0 x9_1) true _ A50.out).mono ?_); rintro e w' ⟨rfl, ⟨nd, rfl⟩⟩; (try first | exact ⟨rfl, _, World.drewN_drewN _ _ _⟩ | exact ⟨rfl, _, Eq.trans (World.drewN_drewN _ _ _) (congrArg (World.drewN _) (Nat.add_assoc _ _ _))⟩))))
             go_roundg k1
             case measure => have := HK1.out; omega
             case rel => exact ⟨(wrap64 (x9_1 + 1)), (by first | rfl | (simp; done) | (simp [*]; done)), H', ⟨by have := HK1.out; omega⟩, ⟨by repeat (first | (with_reducible first | exact HB.out | apply below_alloc | apply pw_below_drewN | apply below_drew1) | exact HB.out)⟩⟩
            ·replace c51 := Bool.eq_false_iff.mpr c51
             subst c51
             have H1 : (lexpriorref04_one.j8 k1 a0 a1 x9_1 2) = some (r1, r2, r3, r4) := by rw [if_neg (show ¬ (false = true) by decide)] at H; exact H
             clear H
             have H := H1
             clear H1
             have H' := Aside0.mk H
             clear H
             have p49 : 0 ≤ (x9_1 : Int) := of_decide_eq_true (by first | (with_reducible assumption) | assumption)
             have q49 : x9_1 < (a0.size : Int) := of_decide_eq_true (by first | (with_reducible assumption) | assumption)
             have hx49 := bt_at a0 x9_1
             replace p49 := eq_true p49
             replace q49 := eq_true q49
             go_wp2_with (first | (go_at_call 112; (with_reducible refine (lexpriorref04_word.calls (bt a0 x9_1) false _ A50.out).mono ?_); rintro e w' ⟨rfl, ⟨nd, rfl⟩⟩; (try first | exact ⟨rfl, _, World.drewN_drewN _ _ _⟩ | exact ⟨rfl, _, Eq.trans (World.drewN_drewN _ _ _) (congrArg (World.drewN _) (Nat.add_assoc _ _ _))⟩)))
             repeat (go_quiet (first | (go_at_call 112; (with_reducible refine (lexpriorref04_word.calls (bt a0 x9_1) false _ A50.out).mono ?_); rintro e w' ⟨rfl, ⟨nd, rfl⟩⟩; (try first | exact ⟨rfl, _, World.drewN_drewN _ _ _⟩ | exact ⟨rfl, _, Eq.trans (World.drewN_drewN _ _ _) (congrArg (World.drewN _) (Nat.add_assoc _ _ _))⟩))); try go_wp2_with (first | (go_at_call 112; (with_reducible refine (lexpriorref04_word.calls (bt a0 x9_1) false _ A50.out).mono ?_); rintro e w' ⟨rfl, ⟨nd, rfl⟩⟩; (try first | exact ⟨rfl, _, World.drewN_drewN _ _ _⟩ | exact ⟨rfl, _, Eq.trans (World.drewN_drewN _ _ _) (congrArg (World.drewN _) (Nat.add_assoc _ _ _))⟩))))
             go_meet
             case rel => exact ⟨_, (x9_1), (2), (by first | rfl | (simp; done) | (simp [*]; done)), (by first | rfl | (simp; done) | (simp [*]; done)), H', ⟨by have := HK1.out; first | omega | exact Nat.le_refl _⟩, ⟨by repeat (first | (with_reducible first | exact HB.out | apply below_alloc | apply pw_below_drewN | apply below_drew1) | exact HB.out)⟩⟩
           ·rw [if_neg c48] at H
            exact absurd H (by simp)
          ·rw [if_neg c47] at H
           have c47b0 : decide (x9_1 < (a0.size : Int)) = false := decide_eq_false c47
           clear c47
           have H' := Aside0.mk H
           clear H
           go_wp2
           repeat (go_quiet (fail); try go_wp2)
           go_meet
           case rel => exact ⟨_, (x9_1), (2), (by first | rfl | (simp; done) | (simp [*]; done)), (by first | rfl | (simp; done) | (simp [*]; done)), H', ⟨by have := HK1.out; first | omega | exact Nat.le_refl _⟩, ⟨by repeat (first | (with_reducible first | exact HB.out | apply below_alloc | apply pw_below_drewN | apply below_drew1) | exact HB.out)⟩⟩
       ·replace c46 := Bool.eq_false_iff.mpr c46
        subst c46
        have H1 : (if (bt a0 a1) = 34 then (lexpriorref04_one.l4 k a0 a1 (wrap64 (a1 + 1))) else ((lexpriorref04_marks.f).bind fun t149 => (lexpriorref04_one.l5 k a0 a1 t149 0))) = some (r1, r2, r3, r4) := by rw [if_neg (show ¬ (false = true) by decide)] at H; exact H
        clear H
        have H := H1
        clear H1
        by_cases c52 : (bt a0 a1) = 34
        ·rw [if_pos c52] at H
         have c52b0 : ((bt a0 a1) == 34) = true := beq_iff_eq.mpr c52
         have c52b1 : ((bt a0 a1) != 34) = false := bne_eq_false_iff_eq.mpr c52
         clear c52
         have H' := Aside0.mk H
         clear H
         go_wp2_with (first | (go_at_call 108; (with_reducible refine (lexpriorref04_date.calls k a0 a1 false _ A7.out).mono ?_); rintro e w' ⟨rfl, ⟨nd, rfl⟩⟩; (try first | exact ⟨rfl, _, World.drewN_drewN _ _ _⟩ | exact ⟨rfl, _, Eq.trans (World.drewN_drewN _ _ _) (congrArg (World.drewN _) (Nat.add_assoc _ _ _))⟩)) | (go_at_call 109; (with_reducible refine (lexpriorref04_digit.calls (bt a0 a1) false _ A9.out).mono ?_); rintro e w' ⟨rfl, ⟨nd, rfl⟩⟩; (try first | exact ⟨rfl, _, World.drewN_drewN _ _ _⟩ | exact ⟨rfl, _, Eq.trans (World.drewN_drewN _ _ _) (congrArg (World.drewN _) (Nat.add_assoc _ _ _))⟩)) | (go_at_call 110; (with_reducible refine (lexpriorref04_small.calls (bt a0 a1) false _ A33.out).mono ?_); rintro e w' ⟨rfl, ⟨nd, rfl⟩⟩; (try first | exact ⟨rfl, _, World.drewN_drewN _ _ _⟩ | exact ⟨rfl, _, Eq.trans (World.drewN_drewN _ _ _) (congrArg (World.drewN _) (Nat.add_assoc _ _ _))⟩)) | (go_at_call 111; (with_reducible refine (lexpriorref04_capital.calls (bt a0 a1) false _ A45.out).mono ?_); rintro e w' ⟨rfl, ⟨nd, rfl⟩⟩; (try first | exact ⟨rfl, _, World.drewN_drewN _ _ _⟩ | exact ⟨rfl, _, Eq.trans (World.drewN_drewN _ _ _) (congrArg (World.drewN _) (Nat.add_assoc _ _ _))⟩)))
         repeat (go_quiet (first | (go_at_call 108; (with_reducible refine (lexpriorref04_date.calls k a0 a1 false _ A7.out).mono ?_); rintro e w' ⟨rfl, ⟨nd, rfl⟩⟩; (try first | exact ⟨rfl, _, World.drewN_drewN _ _ _⟩ | exact ⟨rfl, _, Eq.trans (World.drewN_drewN _ _ _) (congrArg (World.drewN _) (Nat.add_assoc _ _ _))⟩)) | (go_at_call 109; (with_reducible refine (lexpriorref04_digit.calls (bt a0 a1) false _ A9.out).mono ?_); rintro e w' ⟨rfl, ⟨nd, rfl⟩⟩; (try first | exact ⟨rfl, _, World.drewN_drewN _ _ _⟩ | exact ⟨rfl, _, Eq.trans (World.drewN_drewN _ _ _) (congrArg (World.drewN _) (Nat.add_assoc _ _ _))⟩)) | (go_at_call 110; (with_reducible refine (lexpriorref04_small.calls (bt a0 a1) false _ A33.out).mono ?_); rintro e w' ⟨rfl, ⟨nd, rfl⟩⟩; (try first | exact ⟨rfl, _, World.drewN_drewN _ _ _⟩ | exact ⟨rfl, _, Eq.trans (World.drewN_drewN _ _ _) (congrArg (World.drewN _) (Nat.add_assoc _ _ _))⟩)) | (go_at_call 111; (with_reducible refine (lexpriorref04_capital.calls (bt a0 a1) false _ A45.out).mono ?_); rintro e w' ⟨rfl, ⟨nd, rfl⟩⟩; (try first | exact ⟨rfl, _, World.drewN_drewN _ _ _⟩ | exact ⟨rfl, _, Eq.trans (World.drewN_drewN _ _ _) (congrArg (World.drewN _) (Nat.add_assoc _ _ _))⟩))); try go_wp2_with (first | (go_at_call 108; (with_reducible refine (lexpriorref04_date.calls k a0 a1 false _ A7.out).mono ?_); rintro e w' ⟨rfl, ⟨nd, rfl⟩⟩; (try first | exact ⟨rfl, _, World.drewN_drewN _ _ _⟩ | exact ⟨rfl, _, Eq.trans (World.drewN_drewN _ _ _) (congrArg (World.drewN _) (Nat.add_assoc _ _ _))⟩)) | (go_at_call 109; (with_reducible refine (lexpriorref04_digit.calls (bt a0 a1) false _ A9.out).mono ?_); rintro e w' ⟨rfl, ⟨nd, rfl⟩⟩; (try first | exact ⟨rfl, _, World.drewN_drewN _ _ _⟩ | exact ⟨rfl, _, Eq.trans (World.drewN_drewN _ _ _) (congrArg (World.drewN _) (Nat.add_assoc _ _ _))⟩)) | (go_at_call 110; (with_reducible refine (lexpriorref04_small.calls (bt a0 a1) false _ A33.out).mono ?_); rintro e w' ⟨rfl, ⟨nd, rfl⟩⟩; (try first | exact ⟨rfl, _, World.drewN_drewN _ _ _⟩ | exact ⟨rfl, _, Eq.trans (World.drewN_drewN _ _ _) (congrArg (World.drewN _) (Nat.add_assoc _ _ _))⟩)) | (go_at_call 111; (with_reducible refine (lexpriorref04_capital.calls (bt a0 a1) false _ A45.out).mono ?_); rintro e w' ⟨rfl, ⟨nd, rfl⟩⟩; (try first | exact ⟨rfl, _, World.drewN_drewN _ _ _⟩ | exact ⟨rfl, _, Eq.trans (World.drewN_drewN _ _ _) (congrArg (World.drewN _) (Nat.add_assoc _ _ _))⟩))))
         go_loopg [9] k (fun kq v9 w' => ∃ (x9_1 : Int), v9 = .int .i64 x9_1 ∧ Aside0 (lexpriorref04_one.l4 kq a0 a1 x9_1 = some (r1, r2, r3, r4)) ∧ Aside0 (kq ≤ k) ∧ Aside0 (Below w.heap.size w w'))
         case atStart => exact ⟨(wrap64 (a1 + 1)), (by first | rfl | (simp; done) | (simp [*]; done)), H', ⟨Nat.le_refl _⟩, ⟨by repeat (first | (with_reducible first | exact HB.out | apply below_alloc | apply pw_below_drewN | apply below_drew1) | exact HB.out)⟩⟩
         case round =>
          clear H'
          obtain ⟨x9_1, rfl, HA, HK1, HB⟩ := hrel
          cases gk with
          | zero => exact absurd HA.out (by simp [lexpriorref04_one.l4])
          | succ k1 =>
           have H := HA.out
           clear HA
           simp only [lexpriorref04_one.l4] at H
           by_cases c53 : x9_1 < (a0.size : Int)
           ·rw [if_pos c53] at H
            have c53b0 : decide (x9_1 < (a0.size : Int)) = true := decide_eq_true c53
            clear c53
            by_cases c54 : 0 ≤ x9_1
            ·rw [if_pos c54] at H
             have c54b0 : decide (0 ≤ x9_1) = true := decide_eq_true c54
             clear c54
             by_cases c56 : (bt a0 x9_1) = 34
             ·rw [if_pos c56] at H
              have c56b0 : ((bt a0 x9_1) == 34) = true := beq_iff_eq.mpr c56
              have c56b1 : ((bt a0 x9_1) != 34) = false := bne_eq_false_iff_eq.mpr c56
              clear c56
              by_cases c57 : x9_1 = (a0.size : Int)
              ·rw [if_pos c57] at H
               have c57b0 : (x9_1 == (a0.size : Int)) = true := beq_iff_eq.mpr c57
               have c57b1 : (x9_1 != (a0.size : Int)) = false := bne_eq_false_iff_eq.mpr c57
               clear c57
               simp only [Option.some.injEq, Prod.mk.injEq] at H
               obtain ⟨rfl, rfl, rfl, rfl⟩ := H
               have p55 : 0 ≤ (x9_1 : Int) := of_decide_eq_true (by first | (with_reducible assumption) | assumption)
               have q55 : x9_1 < (a0.size : Int) := of_decide_eq_true (by first | (with_reducible assumption) | assumption)
               have hx55 := bt_at a0 x9_1
               replace p55 := eq_true p55
               replace q55 := eq_true q55
               go_wp2
               repeat (go_quiet (fail); try go_wp2)
               refine bodyPost_ret (results_list (rs := [.tmp 4, .tmp 5, .tmp 6, .tmp 7]) rfl (by simp) (.tmp (.tmp (.tmp (.tmp .nil))))) rfl ?_
               exact ⟨by first | rfl | (simp [errW_none, errW_some] <;> rfl) | (simp [*, errW_none, errW_some] <;> rfl), by repeat (first | (with_reducible first | exact HB.out | apply below_alloc | apply pw_below_drewN | apply below_drew1) | exact HB.out)⟩
              ·rw [if_neg c57] at H
               have c57b0 : (x9_1 == (a0.size : Int)) = false := beq_eq_false_iff_ne.mpr c57
               have c57b1 : (x9_1 != (a0.size : Int)) = true := bne_iff_ne.mpr c57
               by_cases c59 : (bt a0 x9_1) = 10
               ·rw [if_pos c59] at H
                have c59b0 : ((bt a0 x9_1) == 10) = true := beq_iff_eq.mpr c59
                have c59b1 : ((bt a0 x9_1) != 10) = false := bne_eq_false_iff_eq.mpr c59
                clear c59
                simp only [Option.some.injEq, Prod.mk.injEq] at H
                obtain ⟨rfl, rfl, rfl, rfl⟩ := H
                have p55 : 0 ≤ (x9_1 : Int) := of_decide_eq_true (by first | (with_reducible assumption) | assumption)
                have q55 : x9_1 < (a0.size : Int) := of_decide_eq_true (by first | (with_reducible assumption) | assumption)
                have hx55 := bt_at a0 x9_1
                replace p55 := eq_true p55
                replace q55 := eq_true q55
                have p58 : 0 ≤ (x9_1 : Int) := of_decide_eq_true (by first | (with_reducible assumption) | assumption)
                have q58 : x9_1 < (a0.size : Int) := of_decide_eq_true (by first | (with_reducible assumption) | assumption)
                have hx58 := bt_at a0 x9_1
                replace p58 := eq_true p58
                replace q58 := eq_true q58
                go_wp2
                repeat (go_quiet (fail); try go_wp2)
                refine bodyPost_ret (results_list (rs := [.tmp 4, .tmp 5, .tmp 6, .tmp 7]) rfl (by simp) (.tmp (.tmp (.tmp (.tmp .nil))))) rfl ?_
                exact ⟨by first | rfl | (simp [errW_none, errW_some] <;> rfl) | (simp [*, errW_none, errW_some] <;> rfl), by repeat (first | (with_reducible first | exact HB.out | apply below_alloc | apply pw_below_drewN | apply below_drew1) | exact HB.out)⟩
               ·rw [if_neg c59] at H
                have c59b0 : ((bt a0 x9_1) == 10) = false := beq_eq_false_iff_ne.mpr c59
                have c59b1 : ((bt a0 x9_1) != 10) = true := bne_iff_ne.mpr c59
                simp only [Option.some.injEq, Prod.mk.injEq] at H
                obtain ⟨rfl, rfl, rfl, rfl⟩ := H
                have p55 : 0 ≤ (x9_1 : Int) := of_decide_eq_true (by first | (with_reducible assumption) | assumption)
                have q55 : x9_1 < (a0.size : Int) := of_decide_eq_true (by first | (with_reducible assumption) | assumption)
                have hx55 := bt_at a0 x9_1
                replace p55 := eq_true p55
                replace q55 := eq_true q55
                have p58 : 0 ≤ (x9_1 : Int) := of_decide_eq_true (by first | (with_reducible assumption) | assumption)
                have q58 : x9_1 < (a0.size : Int) := of_decide_eq_true (by first | (with_reducible assumption) | assumption)
                have hx58 := bt_at a0 x9_1
                replace p58 := eq_true p58
                replace q58 := eq_true q58
                go_wp2
                repeat (go_quiet (fail); try go_wp2)
                refine bodyPost_ret (results_list (rs := [.tmp 4, .tmp 5, .tmp 6, .tmp 7]) rfl (by simp) (.tmp (.tmp (.tmp (.tmp .nil))))) rfl ?_
                exact ⟨by first | rfl | (simp [errW_none, errW_some] <;> rfl) | (simp [*, errW_none, errW_some] <;> rfl), by repeat (first | (with_reducible first | exact HB.out | apply below_alloc | apply pw_below_drewN | apply below_drew1) | exact HB.out)⟩
             ·rw [if_neg c56] at H
              have c56b0 : ((bt a0 x9_1) == 34) = false := beq_eq_false_iff_ne.mpr c56
              have c56b1 : ((bt a0 x9_1) != 34) = true := bne_iff_ne.mpr c56
              by_cases c61 : (bt a0 x9_1) = 10
              ·rw [if_pos c61] at H
               have c61b0 : ((bt a0 x9_1) == 10) = true := beq_iff_eq.mpr c61
               have c61b1 : ((bt a0 x9_1) != 10) = false := bne_eq_false_iff_eq.mpr c61
               clear c61
               by_cases c62 : x9_1 = (a0.size : Int)
               ·rw [if_pos c62] at H
                have c62b0 : (x9_1 == (a0.size : Int)) = true := beq_iff_eq.mpr c62
                have c62b1 : (x9_1 != (a0.size : Int)) = false := bne_eq_false_iff_eq.mpr c62
                clear c62
                simp only [Option.some.injEq, Prod.mk.injEq] at H
                obtain ⟨rfl, rfl, rfl, rfl⟩ := H
                have p55 : 0 ≤ (x9_1 : Int) := of_decide_eq_true (by first | (with_reducible assumption) | assumption)
                have q55 : x9_1 < (a0.size : Int) := of_decide_eq_true (by first | (with_reducible assumption) | assumption)
                have hx55 := bt_at a0 x9_1
                replace p55 := eq_true p55
                replace q55 := eq_true q55
                have p60 : 0 ≤ (x9_1 : Int) := of_decide_eq_true (by first | (with_reducible assumption) | assumption)
                have q60 : x9_1 < (a0.size : Int) := of_decide_eq_true (by first | (with_reducible assumption) | assumption)
                have hx60 := bt_at a0 x9_1
                replace p60 := eq_true p60
                replace q60 := eq_true q60
                go_wp2
                repeat (go_quiet (fail); try go_wp2)
                refine bodyPost_ret (results_list (rs := [.tmp 4, .tmp 5, .tmp 6, .tmp 7]) rfl (by simp) (.tmp (.tmp (.tmp (.tmp .nil))))) rfl ?_
                exact ⟨by first | rfl | (simp [errW_none, errW_some] <;> rfl) | (simp [*, errW_none, errW_some] <;> rfl), by repeat (first | (with_reducible first | exact HB.out | apply below_alloc | apply pw_below_drewN | apply below_drew1) | exact HB.out)⟩
               ·rw [if_neg c62] at H
                have c62b0 : (x9_1 == (a0.size : Int)) = false := beq_eq_false_iff_ne.mpr c62
                have c62b1 : (x9_1 != (a0.size : Int)) = true := bne_iff_ne.mpr c62
                simp only [Option.some.injEq, Prod.mk.injEq] at H
                obtain ⟨rfl, rfl, rfl, rfl⟩ := H
                have p55 : 0 ≤ (x9_1 : Int) := of_decide_eq_true (by first | (with_reducible assumption) | assumption)
                have q55 : x9_1 < (a0.size : Int) := of_decide_eq_true (by first | (with_reducible assumption) | assumption)
                have hx55 := bt_at a0 x9_1
                replace p55 := eq_true p55
                replace q55 := eq_true q55
                have p60 : 0 ≤ (x9_1 : Int) := of_decide_eq_true (by first | (with_reducible assumption) | assumption)
                have q60 : x9_1 < (a0.size : Int) := of_decide_eq_true (by first | (with_reducible assumption) | assumption)
                have hx60 := bt_at a0 x9_1
                replace p60 := eq_true p60
                replace q60 := eq_true q60
                have p63 : 0 ≤ (x9_1 : Int) := of_decide_eq_true (by first | (with_reducible assumption) | assumption)
                have q63 : x9_1 < (a0.size : Int) := of_decide_eq_true (by first | (with_reducible assumption) | assumption)
                have hx63 := bt_at a0 x9_1
                replace p63 := eq_true p63
                replace q63 := eq_true q63
                go_wp2
                repeat (go_quiet (fail); try go_wp2)
                refine bodyPost_ret (results_list (rs := [.tmp 4, .tmp 5, .tmp 6, .tmp 7]) rfl (by simp) (.tmp (.tmp (.tmp (.tmp .nil))))) rfl ?_
                exact ⟨by first | rfl | (simp [errW_none, errW_some] <;> rfl) | (simp [*, errW_none, errW_some] <;> rfl), by repeat (first | (with_reducible first | exact HB.out | apply below_alloc | apply pw_below_drewN | apply below_drew1) | exact HB.out)⟩
              ·rw [if_neg c61] at H
               have c61b0 : ((bt a0 x9_1) == 10) = false := beq_eq_false_iff_ne.mpr c61
               have c61b1 : ((bt a0 x9_1) != 10) = true := bne_iff_ne.mpr c61
               have H' := Aside0.mk H
               clear H
               have p55 : 0 ≤ (x9_1 : Int) := of_decide_eq_true (by first | (with_reducible assumption) | assumption)
               have q55 : x9_1 < (a0.size : Int) := of_decide_eq_true (by first | (with_reducible assumption) | assumption)
               have hx55 := bt_at a0 x9_1
               replace p55 := eq_true p55
               replace q55 := eq_true q55
               have p60 : 0 ≤ (x9_1 : Int) := of_decide_eq_true (by first | (with_reducible assumption) | assumption)
               have q60 : x9_1 < (a0.size : Int) := of_decide_eq_true (by first | (with_reducible assumption) | assumption)
               have hx60 := bt_at a0 x9_1
               replace p60 := eq_true p60
               replace q60 := eq_true q60
               go_wp2
               repeat (go_quiet (fail); try go_wp2)
               go_roundg k1
               case measure => have := HK1.out; omega
               case rel => exact ⟨(wrap64 (x9_1 + 1)), (by first | rfl | (simp; done) | (simp [*]; done)), H', ⟨by have := HK1.out; omega⟩, ⟨by repeat (first | (with_reducible first | exact HB.out | apply below_alloc | apply pw_below_drewN | apply below_drew1) | exact HB.out)⟩⟩
            ·rw [if_neg c54] at H
             exact absurd H (by simp)
           ·rw [if_neg c53] at H
            have c53b0 : decide (x9_1 < (a0.size : Int)) = false := decide_eq_false c53
            clear c53
            by_cases c64 : x9_1 = (a0.size : Int)
            ·rw [if_pos c64] at H
             have c64b0 : (x9_1 == (a0.size : Int)) = true := beq_iff_eq.mpr c64
             have c64b1 : (x9_1 != (a0.size : Int)) = false := bne_eq_false_iff_eq.mpr c64
             clear c64
             simp only [Option.some.injEq, Prod.mk.injEq] at H
             obtain ⟨rfl, rfl, rfl, rfl⟩ := H
             go_wp2
             repeat (go_quiet (fail); try go_wp2)
             refine bodyPost_ret (results_list (rs := [.tmp 4, .tmp 5, .tmp 6, .tmp 7]) rfl (by simp) (.tmp (.tmp (.tmp (.tmp .nil))))) rfl ?_
             exact ⟨by first | rfl | (simp [errW_none, errW_some] <;> rfl) | (simp [*, errW_none, errW_some] <;> rfl), by repeat (first | (with_reducible first | exact HB.out | apply below_alloc | apply pw_below_drewN | apply below_drew1) | exact HB.out)⟩
            ·rw [if_neg c64] at H
             have c64b0 : (x9_1 == (a0.size : Int)) = false := beq_eq_false_iff_ne.mpr c64
             have c64b1 : (x9_1 != (a0.size : Int)) = true := bne_iff_ne.mpr c64
             by_cases c65 : 0 ≤ x9_1
             ·rw [if_pos c65] at H
              exact absurd H (by simp)
             ·rw [if_neg c65] at H
              exact absurd H (by simp)
        ·rw [if_neg c52] at H
         have c52b0 : ((bt a0 a1) == 34) = false := beq_eq_false_iff_ne.mpr c52
         have c52b1 : ((bt a0 a1) != 34) = true := bne_iff_ne.mpr c52
         replace H := Option.bind_eq_some_iff.mp H
         obtain ⟨t149, A660, H⟩ := H
         replace H : (lexpriorref04_one.l5 k a0 a1 t149 0) = some (r1, r2, r3, r4) := H
         have A66 := Aside0.mk A660
         clear A660
         have H' := Aside0.mk H
         clear H
         go_wp2_with (first | (go_at_call 108; (with_reducible refine (lexpriorref04_date.calls k a0 a1 false _ A7.out).mono ?_); rintro e w' ⟨rfl, ⟨nd, rfl⟩⟩; (try first | exact ⟨rfl, _, World.drewN_drewN _ _ _⟩ | exact ⟨rfl, _, Eq.trans (World.drewN_drewN _ _ _) (congrArg (World.drewN _) (Nat.add_assoc _ _ _))⟩)) | (go_at_call 109; (with_reducible refine (lexpriorref04_digit.calls (bt a0 a1) false _ A9.out).mono ?_); rintro e w' ⟨rfl, ⟨nd, rfl⟩⟩; (try first | exact ⟨rfl, _, World.drewN_drewN _ _ _⟩ | exact ⟨rfl, _, Eq.trans (World.drewN_drewN _ _ _) (congrArg (World.drewN _) (Nat.add_assoc _ _ _))⟩)) | (go_at_call 110; (with_reducible refine (lexpriorref04_small.calls (bt a0 a1) false _ A33.out).mono ?_); rintro e w' ⟨rfl, ⟨nd, rfl⟩⟩; (try first | exact ⟨rfl, _, World.drewN_drewN _ _ _⟩ | exact ⟨rfl, _, Eq.trans (World.drewN_drewN _ _ _) (congrArg (World.drewN _) (Nat.add_assoc _ _ _))⟩)) | (go_at_call 111; (with_reducible refine (lexpriorref04_capital.calls (bt a0 a1) false _ A45.out).mono ?_); rintro e w' ⟨rfl, ⟨nd, rfl⟩⟩; (try first | exact ⟨rfl, _, World.drewN_drewN _ _ _⟩ | exact ⟨rfl, _, Eq.trans (World.drewN_drewN _ _ _) (congrArg (World.drewN _) (Nat.add_assoc _ _ _))⟩)) | (go_at_call 113; (with_reducible refine (lexpriorref04_marks.calls  t149 _ A66.out).mono ?_); rintro e w67 ⟨v150, rfl, ho0, hb⟩; have n0_ := Aside0.mk (Kd.R_lower ho0 (below_size (by repeat (first | (with_reducible first | exact HB.out | apply below_alloc | apply pw_below_drewN | apply below_drew1) | exact HB.out)))); have n1_ := Aside0.mk (below_step (by repeat (first | (with_reducible first | exact HB.out | apply below_alloc | apply pw_below_drewN | apply below_drew1) | exact HB.out)) hb); clear HB; have HO151 := n0_; have HB := n1_; clear n0_ n1_; (try clear hb); (try clear hb2); (try clear hk); (try clear hi); (try clear ho0)))
         repeat (go_quiet (first | (go_at_call 108; (with_reducible refine (lexpriorref04_date.calls k a0 a1 false _ A7.out).mono ?_); rintro e w' ⟨rfl, ⟨nd, rfl⟩⟩; (try first | exact ⟨rfl, _, World.drewN_drewN _ _ _⟩ | exact ⟨rfl, _, Eq.trans (World.drewN_drewN _ _ _) (congrArg (World.drewN _) (Nat.add_assoc _ _ _))⟩)) | (go_at_call 109; (with_reducible refine (lexpriorref04_digit.calls (bt a0 a1) false _ A9.out).mono ?_); rintro e w' ⟨rfl, ⟨nd, rfl⟩⟩; (try first | exact ⟨rfl, _, World.drewN_drewN _ _ _⟩ | exact ⟨rfl, _, Eq.trans (World.drewN_drewN _ _ _) (congrArg (World.drewN _) (Nat.add_assoc _ _ _))⟩)) | (go_at_call 110; (with_reducible refine (lexpriorref04_small.calls (bt a0 a1) false _ A33.out).mono ?_); rintro e w' ⟨rfl, ⟨nd, rfl⟩⟩; (try first | exact ⟨rfl, _, World.drewN_drewN _ _ _⟩ | exact ⟨rfl, _, Eq.trans (World.drewN_drewN _ _ _) (congrArg (World.drewN _) (Nat.add_assoc _ _ _))⟩)) | (go_at_call 111; (with_reducible refine (lexpriorref04_capital.calls (bt a0 a1) false _ A45.out).mono ?_); rintro e w' ⟨rfl, ⟨nd, rfl⟩⟩; (try first | exact ⟨rfl, _, World.drewN_drewN _ _ _⟩ | exact ⟨rfl, _, Eq.trans (World.drewN_drewN _ _ _) (congrArg (World.drewN _) (Nat.add_assoc _ _ _))⟩)) | (go_at_call 113; (with_reducible refine (lexpriorref04_marks.calls  t149 _ A66.out).mono ?_); rintro e w67 ⟨v150, rfl, ho0, hb⟩; have n0_ := Aside0.mk (Kd.R_lower ho0 (below_size (by repeat (first | (with_reducible first | exact HB.out | apply below_alloc | apply pw_below_drewN | apply below_drew1) | exact HB.out)))); have n1_ := Aside0.mk (below_step (by repeat (first | (with_reducible first | exact HB.out | apply below_alloc | apply pw_below_drewN | apply below_drew1) | exact HB.out)) hb); clear HB; have HO151 := n0_; have HB := n1_; clear n0_ n1_; (try clear hb); (try clear hb2); (try clear hk); (try clear hi); (try clear ho0))); try go_wp2_with (first | (go_at_call 108; (with_reducible refine (lexpriorref04_date.calls k a0 a1 false _ A7.out).mono ?_); rintro e w' ⟨rfl, ⟨nd, rfl⟩⟩; (try first | exact ⟨rfl, _, World.drewN_drewN _ _ _⟩ | exact ⟨rfl, _, Eq.trans (World.drewN_drewN _ _ _) (congrArg (World.drewN _) (Nat.add_assoc _ _ _))⟩)) | (go_at_call 109; (with_reducible refine (lexpriorref04_digit.calls (bt a0 a1) false _ A9.out).mono ?_); rintro e w' ⟨rfl, ⟨nd, rfl⟩⟩; (try first | exact ⟨rfl, _, World.drewN_drewN _ _ _⟩ | exact ⟨rfl, _, Eq.trans (World.drewN_drewN _ _ _) (congrArg (World.drewN _) (Nat.add_assoc _ _ _))⟩)) | (go_at_call 110; (with_reducible refine (lexpriorref04_small.calls (bt a0 a1) false _ A33.out).mono ?_); rintro e w' ⟨rfl, ⟨nd, rfl⟩⟩; (try first | exact ⟨rfl, _, World.drewN_drewN _ _ _⟩ | exact ⟨rfl, _, Eq.trans (World.drewN_drewN _ _ _) (congrArg (World.drewN _) (Nat.add_assoc _ _ _))⟩)) | (go_at_call 111; (with_reducible refine (lexpriorref04_capital.calls (bt a0 a1) false _ A45.out).mono ?_); rintro e w' ⟨rfl, ⟨nd, rfl⟩⟩; (try first | exact ⟨rfl, _, World.drewN_drewN _ _ _⟩ | exact ⟨rfl, _, Eq.trans (World.drewN_drewN _ _ _) (congrArg (World.drewN _) (Nat.add_assoc _ _ _))⟩)) | (go_at_call 113; (with_reducible refine (lexpriorref04_marks.calls  t149 _ A66.out).mono ?_); rintro e w67 ⟨v150, rfl, ho0, hb⟩; have n0_ := Aside0.mk (Kd.R_lower ho0 (below_size (by repeat (first | (with_reducible first | exact HB.out | apply below_alloc | apply pw_below_drewN | apply below_drew1) | exact HB.out)))); have n1_ := Aside0.mk (below_step (by repeat (first | (with_reducible first | exact HB.out | apply below_alloc | apply pw_below_drewN | apply below_drew1) | exact HB.out)) hb); clear HB; have HO151 := n0_; have HB := n1_; clear n0_ n1_; (try clear hb); (try clear hb2); (try clear hk); (try clear hi); (try clear ho0))))
         go_loopg [12] k (fun kq v12 w' => ∃ (x12_1 : Int), v12 = .int .i64 x12_1 ∧ Aside0 (lexpriorref04_one.l5 kq a0 a1 t149 x12_1 = some (r1, r2, r3, r4)) ∧ Aside0 (kq ≤ k) ∧ Aside0 (Kd.R Kd.string 9 w' w.heap.size (fun _ => True) v150 t149) ∧ Aside0 (Below w.heap.size w w'))
         case atStart => exact ⟨(0), (by first | rfl | (simp; done) | (simp [*]; done)), H', ⟨Nat.le_refl _⟩, ⟨by (with_reducible repeat (first | apply Kd.R_alloc | apply Kd.R_drewN | apply Kd.R_drew)); exact HO151.out⟩, ⟨by repeat (first | (with_reducible first | exact HB.out | apply below_alloc | apply pw_below_drewN | apply below_drew1) | exact HB.out)⟩⟩
         case round =>
          clear H'
          obtain ⟨x12_1, rfl, HA, HK1, HO_11, HB⟩ := hrel
          cases gk with
          | zero => exact absurd HA.out (by simp [lexpriorref04_one.l5])
          | succ k1 =>
           have H := HA.out
           clear HA
           simp only [lexpriorref04_one.l5] at H
           by_cases c68 : x12_1 < (t149.length : Int)
           ·rw [if_pos c68] at H
            have c68b0 : decide (x12_1 < (t149.length : Int)) = true := decide_eq_true c68
            clear c68
            by_cases c69 : 0 ≤ x12_1
            ·rw [if_pos c69] at H
             have c69b0 : decide (0 ≤ x12_1) = true := decide_eq_true c69
             clear c69
             replace H := Option.bind_eq_some_iff.mp H
             obtain ⟨t153, A700, H⟩ := H
             replace H : (if t153 = true then (some (6, wrap64 (a1 + ((rdOf ByteArray.empty t149 x12_1).size : Int)), 0, 0)) else (lexpriorref04_one.l5 k1 a0 a1 t149 (wrap64 (x12_1 + 1)))) = some (r1, r2, r3, r4) := H
             have A70 := Aside0.mk A700
             clear A700
             by_cases c71 : t153 = true
             ·subst c71
              have H1 : (some (6, wrap64 (a1 + ((rdOf ByteArray.empty t149 x12_1).size : Int)), 0, 0)) = some (r1, r2, r3, r4) := by rw [if_pos rfl] at H; exact H
              clear H
              have H := H1
              clear H1
              simp only [Option.some.injEq, Prod.mk.injEq] at H
              obtain ⟨rfl, rfl, rfl, rfl⟩ := H
              obtain ⟨Ao72, co72, eo72⟩ := Kd.R_slice HO_11.out
              subst eo72
              have p152 : 0 ≤ (x12_1 : Int) := of_decide_eq_true (by first | (with_reducible assumption) | assumption)
              have q152 : x12_1 < (t149.length : Int) := of_decide_eq_true (by first | (with_reducible assumption) | assumption)
              obtain ⟨ad152, e152, hx152_0⟩ := Kd.at_string (Kd.R_reads' HO_11.out).2.2 x12_1 p152 q152
              cases e152
              replace p152 := eq_true p152
              replace q152 := eq_true q152
              go_wp2_with (first | (go_at_call 114; (with_reducible refine (lexpriorref04_begins.calls a0 a1 (rdOf ByteArray.empty t149 x12_1) true _ A70.out).mono ?_); rintro e w' ⟨rfl, ⟨nd, rfl⟩⟩; (try first | exact ⟨rfl, _, World.drewN_drewN _ _ _⟩ | exact ⟨rfl, _, Eq.trans (World.drewN_drewN _ _ _) (congrArg (World.drewN _) (Nat.add_assoc _ _ _))⟩); have p154 : 0 ≤ (x12_1 : Int) := of_decide_eq_true (by first | (with_reducible assumption) | assumption); have q154 : x12_1 < (t149.length : Int) := of_decide_eq_true (by first | (with_reducible assumption) | assumption); obtain ⟨ad154, e154, hx154_0⟩ := Kd.at_string (Kd.R_reads' HO_11.out).2.2 x12_1 p154 q154; obtain rfl : ad152 = ad154 := (by injection e154); replace p154 := eq_true p154; replace q154 := eq_true q154))
              repeat (go_quiet (first | (go_at_call 114; (with_reducible refine (lexpriorref04_begins.calls a0 a1 (rdOf ByteArray.empty t149 x12_1) true _ A70.out).mono ?_); rintro e w' ⟨rfl, ⟨nd, rfl⟩⟩; (try first | exact ⟨rfl, _, World.drewN_drewN _ _ _⟩ | exact ⟨rfl, _, Eq.trans (World.drewN_drewN _ _ _) (congrArg (World.drewN _) (Nat.add_assoc _ _ _))⟩); have p154 : 0 ≤ (x12_1 : Int) := of_decide_eq_true (by first | (with_reducible assumption) | assumption); have q154 : x12_1 < (t149.length : Int) := of_decide_eq_true (by first | (with_reducible assumption) | assumption); obtain ⟨ad154, e154, hx154_0⟩ := Kd.at_string (Kd.R_reads' HO_11.out).2.2 x12_1 p154 q154; obtain rfl : ad152 = ad154 := (by injection e154); replace p154 := eq_true p154; replace q154 := eq_true q154)); try go_wp2_with (first | (go_at_call 114; (with_reducible refine (lexpriorref04_begins.calls a0 a1 (rdOf ByteArray.empty t149 x12_1) true _ A70.out).mono ?_); rintro e w' ⟨rfl, ⟨nd, rfl⟩⟩; (try first | exact ⟨rfl, _, World.drewN_drewN _ _ _⟩ | exact ⟨rfl, _, Eq.trans (World.drewN_drewN _ _ _) (congrArg (World.drewN _) (Nat.add_assoc _ _ _))⟩); have p154 : 0 ≤ (x12_1 : Int) := of_decide_eq_true (by first | (with_reducible assumption) | assumption); have q154 : x12_1 < (t149.length : Int) := of_decide_eq_true (by first | (with_reducible assumption) | assumption); obtain ⟨ad154, e154, hx154_0⟩ := Kd.at_string (Kd.R_reads' HO_11.out).2.2 x12_1 p154 q154; obtain rfl : ad152 = ad154 := (by injection e154); replace p154 := eq_true p154; replace q154 := eq_true q154)))
              refine bodyPost_ret (results_list (rs := [.tmp 4, .tmp 5, .tmp 6, .tmp 7]) rfl (by simp) (.tmp (.tmp (.tmp (.tmp .nil))))) rfl ?_
              exact ⟨by first | rfl | (simp [errW_none, errW_some] <;> rfl) | (simp [*, errW_none, errW_some] <;> rfl), by repeat (first | (with_reducible first | exact HB.out | apply below_alloc | apply pw_below_drewN | apply below_drew1) | exact HB.out)⟩
             ·replace c71 := Bool.eq_false_iff.mpr c71
              subst c71
              have H1 : (lexpriorref04_one.l5 k1 a0 a1 t149 (wrap64 (x12_1 + 1))) = some (r1, r2, r3, r4) := by rw [if_neg (show ¬ (false = true) by decide)] at H; exact H
              clear H
              have H := H1
              clear H1
              have H' := Aside0.mk H
              clear H
              obtain ⟨Ao73, co73, eo73⟩ := Kd.R_slice HO_11.out
              subst eo73
              have p152 : 0 ≤ (x12_1 : Int) := of_decide_eq_true (by first | (with_reducible assumption) | assumption)
              have q152 : x12_1 < (t149.length : Int) := of_decide_eq_true (by first | (with_reducible assumption) | assumption)
              obtain ⟨ad152, e152, hx152_0⟩ := Kd.at_string (Kd.R_reads' HO_11.out).2.2 x12_1 p152 q152
              cases e152
              replace p152 := eq_true p152
              replace q152 := eq_true q152
              go_wp2_with (first | (go_at_call 114; (with_reducible refine (lexpriorref04_begins.calls a0 a1 (rdOf ByteArray.empty t149 x12_1) false _ A70.out).mono ?_); rintro e w' ⟨rfl, ⟨nd, rfl⟩⟩; (try first | exact ⟨rfl, _, World.drewN_drewN _ _ _⟩ | exact ⟨rfl, _, Eq.trans (World.drewN_drewN _ _ _) (congrArg (World.drewN _) (Nat.add_assoc _ _ _))⟩)))
              repeat (go_quiet (first | (go_at_call 114; (with_reducible refine (lexpriorref04_begins.calls a0 a1 (rdOf ByteArray.empty t149 x12_1) false _ A70.out).mono ?_); rintro e w' ⟨rfl, ⟨nd, rfl⟩⟩; (try first | exact ⟨rfl, _, World.drewN_drewN _ _ _⟩ | exact ⟨rfl, _, Eq.trans (World.drewN_drewN _ _ _) (congrArg (World.drewN _) (Nat.add_assoc _ _ _))⟩))); try go_wp2_with (first | (go_at_call 114; (with_reducible refine (lexpriorref04_begins.calls a0 a1 (rdOf ByteArray.empty t149 x12_1) false _ A70.out).mono ?_); rintro e w' ⟨rfl, ⟨nd, rfl⟩⟩; (try first | exact ⟨rfl, _, World.drewN_drewN _ _ _⟩ | exact ⟨rfl, _, Eq.trans (World.drewN_drewN _ _ _) (congrArg (World.drewN _) (Nat.add_assoc _ _ _))⟩))))
              go_roundg k1
              case measure => have := HK1.out; omega
              case rel => exact ⟨(wrap64 (x12_1 + 1)), (by first | rfl | (simp; done) | (simp [*]; done)), H', ⟨by have := HK1.out; omega⟩, ⟨by (with_reducible repeat (first | apply Kd.R_alloc | apply Kd.R_drewN | apply Kd.R_drew)); exact HO_11.out⟩, ⟨by repeat (first | (with_reducible first | exact HB.out | apply below_alloc | apply pw_below_drewN | apply below_drew1) | exact HB.out)⟩⟩
            ·rw [if_neg c69] at H
             exact absurd H (by simp)
           ·rw [if_neg c68] at H
            have c68b0 : decide (x12_1 < (t149.length : Int)) = false := decide_eq_false c68
            clear c68
            simp only [Option.some.injEq, Prod.mk.injEq] at H
            obtain ⟨rfl, rfl, rfl, rfl⟩ := H
            obtain ⟨Ao74, co74, eo74⟩ := Kd.R_slice HO_11.out
            subst eo74
            go_wp2
            repeat (go_quiet (fail); try go_wp2)
            refine bodyPost_ret (results_list (rs := [.tmp 4, .tmp 5, .tmp 6, .tmp 7]) rfl (by simp) (.tmp (.tmp (.tmp (.tmp .nil))))) rfl ?_
            exact ⟨by first | rfl | (simp [errW_none, errW_some] <;> rfl) | (simp [*, errW_none, errW_some] <;> rfl), by repeat (first | (with_reducible first | exact HB.out | apply below_alloc | apply pw_below_drewN | apply below_drew1) | exact HB.out)⟩
   case rest =>
    clear HC6
    obtain ⟨kq, x9_5, x10_5, rfl, rfl, HA, HJ5, HB⟩ := hcut
    cases kq with
    | zero => exact absurd HA.out (by simp [lexpriorref04_one.j8])
    | succ kj5 =>
     have H := HA.out
     clear HA
     simp only [lexpriorref04_one.j8] at H
     have HC75 := Aside0.mk H
     clear H
     go_upto_region 37 with (fail)
     repeat (go_quiet (fail); go_upto_region 37 with (fail))
     go_cut [181] (fun v181 wc => ∃ (kq : Nat) (x181_74 : Bool), v181 = .bool x181_74 ∧ Aside0 (lexpriorref04_one.j9 kq a0 a1 x9_5 x10_5 x181_74 = some (r1, r2, r3, r4)) ∧ Aside0 (kq ≤ kj5) ∧ Aside0 (Below w.heap.size w wc))
     case first =>
      have H := HC75.out
      clear HC75
      by_cases c76 : x10_5 = 1
      ·rw [if_pos c76] at H
       have c76b0 : (x10_5 == 1) = true := beq_iff_eq.mpr c76
       have c76b1 : (x10_5 != 1) = false := bne_eq_false_iff_eq.mpr c76
       clear c76
       (first | rw [c76b0] | (simp only [i64_w, i32_w]; rw [c76b0]) | skip)
       have H' := Aside0.mk H
       clear H
       go_wp2
       repeat (go_quiet (fail); try go_wp2)
       go_meet
       case rel => exact ⟨_, (decide ((wrap64 (x9_5 - a1)) > 32)), (by first | rfl | (simp; done) | (simp [*]; done)), H', ⟨by have := HJ5.out; first | omega | exact Nat.le_refl _⟩, ⟨by repeat (first | (with_reducible first | exact HB.out | apply below_alloc | apply pw_below_drewN | apply below_drew1) | exact HB.out)⟩⟩
      ·rw [if_neg c76] at H
       have c76b0 : (x10_5 == 1) = false := beq_eq_false_iff_ne.mpr c76
       have c76b1 : (x10_5 != 1) = true := bne_iff_ne.mpr c76
       (first | rw [c76b0] | (simp only [i64_w, i32_w]; rw [c76b0]) | skip)
       by_cases c77 : x10_5 = 2
       ·rw [if_pos c77] at H
        have c77b0 : (x10_5 == 2) = true := beq_iff_eq.mpr c77
        have c77b1 : (x10_5 != 2) = false := bne_eq_false_iff_eq.mpr c77
        clear c77
        have H' := Aside0.mk H
        clear H
        go_wp2
        repeat (go_quiet (fail); try go_wp2)
        go_meet
        case rel => exact ⟨_, (decide ((wrap64 (x9_5 - a1)) > 32)), (by first | rfl | (simp; done) | (simp [*]; done)), H', ⟨by have := HJ5.out; first | omega | exact Nat.le_refl _⟩, ⟨by repeat (first | (with_reducible first | exact HB.out | apply below_alloc | apply pw_below_drewN | apply below_drew1) | exact HB.out)⟩⟩
       ·rw [if_neg c77] at H
        have c77b0 : (x10_5 == 2) = false := beq_eq_false_iff_ne.mpr c77
        have c77b1 : (x10_5 != 2) = true := bne_iff_ne.mpr c77
        have H' := Aside0.mk H
        clear H
        go_wp2
        repeat (go_quiet (fail); try go_wp2)
        go_meet
        case rel => exact ⟨_, (false), (by first | rfl | (simp; done) | (simp [*]; done)), H', ⟨by have := HJ5.out; first | omega | exact Nat.le_refl _⟩, ⟨by repeat (first | (with_reducible first | exact HB.out | apply below_alloc | apply pw_below_drewN | apply below_drew1) | exact HB.out)⟩⟩
     case rest =>
      clear HC75
      obtain ⟨kq, x181_74, rfl, HA, HJ74, HB⟩ := hcut
      cases kq with
      | zero => exact absurd HA.out (by simp [lexpriorref04_one.j9])
      | succ kj74 =>
       have H := HA.out
       clear HA
       simp only [lexpriorref04_one.j9] at H
       by_cases c78 : x181_74 = true
       ·subst c78
        have H1 : (some (0, 0, 5, a1)) = some (r1, r2, r3, r4) := by rw [if_pos rfl] at H; exact H
        clear H
        have H := H1
        clear H1
        simp only [Option.some.injEq, Prod.mk.injEq] at H
        obtain ⟨rfl, rfl, rfl, rfl⟩ := H
        go_wp2
        repeat (go_quiet (fail); try go_wp2)
        refine bodyPost_ret (results_list (rs := [.tmp 4, .tmp 5, .tmp 6, .tmp 7]) rfl (by simp) (.tmp (.tmp (.tmp (.tmp .nil))))) rfl ?_
        exact ⟨by first | rfl | (simp [errW_none, errW_some] <;> rfl) | (simp [*, errW_none, errW_some] <;> rfl), by repeat (first | (with_reducible first | exact HB.out | apply below_alloc | apply pw_below_drewN | apply below_drew1) | exact HB.out)⟩
       ·replace c78 := Bool.eq_false_iff.mpr c78
        subst c78
        have H1 : (if x9_5 < (a0.size : Int) then (if 0 ≤ x9_5 then ((lexpriorref04_word.f (bt a0 x9_5)).bind fun t155 => (if t155 = true then (some (0, 0, 41, x9_5)) else (some (x10_5, x9_5, 0, 0)))) else (none)) else (some (x10_5, x9_5, 0, 0))) = some (r1, r2, r3, r4) := by rw [if_neg (show ¬ (false = true) by decide)] at H; exact H
        clear H
        have H := H1
        clear H1
        by_cases c79 : x9_5 < (a0.size : Int)
        ·rw [if_pos c79] at H
         have c79b0 : decide (x9_5 < (a0.size : Int)) = true := decide_eq_true c79
         clear c79
         by_cases c80 : 0 ≤ x9_5
         ·rw [if_pos c80] at H
          have c80b0 : decide (0 ≤ x9_5) = true := decide_eq_true c80
          clear c80
          replace H := Option.bind_eq_some_iff.mp H
          obtain ⟨t155, A820, H⟩ := H
          replace H : (if t155 = true then (some (0, 0, 41, x9_5)) else (some (x10_5, x9_5, 0, 0))) = some (r1, r2, r3, r4) := H
          have A82 := Aside0.mk A820
          clear A820
          by_cases c83 : t155 = true
          ·subst c83
           have H1 : (some (0, 0, 41, x9_5)) = some (r1, r2, r3, r4) := by rw [if_pos rfl] at H; exact H
           clear H
           have H := H1
           clear H1
           simp only [Option.some.injEq, Prod.mk.injEq] at H
           obtain ⟨rfl, rfl, rfl, rfl⟩ := H
           have p81 : 0 ≤ (x9_5 : Int) := of_decide_eq_true (by first | (with_reducible assumption) | assumption)
           have q81 : x9_5 < (a0.size : Int) := of_decide_eq_true (by first | (with_reducible assumption) | assumption)
           have hx81 := bt_at a0 x9_5
           replace p81 := eq_true p81
           replace q81 := eq_true q81
           go_wp2_with (first | (go_at_call 112; (with_reducible refine (lexpriorref04_word.calls (bt a0 x9_5) true _ A82.out).mono ?_); rintro e w' ⟨rfl, ⟨nd, rfl⟩⟩; (try first | exact ⟨rfl, _, World.drewN_drewN _ _ _⟩ | exact ⟨rfl, _, Eq.trans (World.drewN_drewN _ _ _) (congrArg (World.drewN _) (Nat.add_assoc _ _ _))⟩)))
           repeat (go_quiet (first | (go_at_call 112; (with_reducible refine (lexpriorref04_word.calls (bt a0 x9_5) true _ A82.out).mono ?_); rintro e w' ⟨rfl, ⟨nd, rfl⟩⟩; (try first | exact ⟨rfl, _, World.drewN_drewN _ _ _⟩ | exact ⟨rfl, _, Eq.trans (World.drewN_drewN _ _ _) (congrArg (World.drewN _) (Nat.add_assoc _ _ _))⟩))); try go_wp2_with (first | (go_at_call 112; (with_reducible refine (lexpriorref04_word.calls (bt a0 x9_5) true _ A82.out).mono ?_); rintro e w' ⟨rfl, ⟨nd, rfl⟩⟩; (try first | exact ⟨rfl, _, World.drewN_drewN _ _ _⟩ | exact ⟨rfl, _, Eq.trans (World.drewN_drewN _ _ _) (congrArg (World.drewN _) (Nat.add_assoc _ _ _))⟩))))
           refine bodyPost_ret (results_list (rs := [.tmp 4, .tmp 5, .tmp 6, .tmp 7]) rfl (by simp) (.tmp (.tmp (.tmp (.tmp .nil))))) rfl ?_
           exact ⟨by first | rfl | (simp [errW_none, errW_some] <;> rfl) | (simp [*, errW_none, errW_some] <;> rfl), by repeat (first | (with_reducible first | exact HB.out | apply below_alloc | apply pw_below_drewN | apply below_drew1) | exact HB.out)⟩
          ·replace c83 := Bool.eq_false_iff.mpr c83
           subst c83
           have H1 : (some (x10_5, x9_5, 0, 0)) = some (r1, r2, r3, r4) := by rw [if_neg (show ¬ (false = true) by decide)] at H; exact H
           clear H
           have H := H1
           clear H1
           simp only [Option.some.injEq, Prod.mk.injEq] at H
           obtain ⟨rfl, rfl, rfl, rfl⟩ := H
           have p81 : 0 ≤ (x9_5 : Int) := of_decide_eq_true (by first | (with_reducible assumption) | assumption)
           have q81 : x9_5 < (a0.size : Int) := of_decide_eq_true (by first | (with_reducible assumption) | assumption)
           have hx81 := bt_at a0 x9_5
           replace p81 := eq_true p81
           replace q81 := eq_true q81
           go_wp2_with (first | (go_at_call 112; (with_reducible refine (lexpriorref04_word.calls (bt a0 x9_5) false _ A82.out).mono ?_); rintro e w' ⟨rfl, ⟨nd, rfl⟩⟩; (try first | exact ⟨rfl, _, World.drewN_drewN _ _ _⟩ | exact ⟨rfl, _, Eq.trans (World.drewN_drewN _ _ _) (congrArg (World.drewN _) (Nat.add_assoc _ _ _))⟩)))
           repeat (go_quiet (first | (go_at_call 112; (with_reducible refine (lexpriorref04_word.calls (bt a0 x9_5) false _ A82.out).mono ?_); rintro e w' ⟨rfl, ⟨nd, rfl⟩⟩; (try first | exact ⟨rfl, _, World.drewN_drewN _ _ _⟩ | exact ⟨rfl, _, Eq.trans (World.drewN_drewN _ _ _) (congrArg (World.drewN _) (Nat.add_assoc _ _ _))⟩))); try go_wp2_with (first | (go_at_call 112; (with_reducible refine (lexpriorref04_word.calls (bt a0 x9_5) false _ A82.out).mono ?_); rintro e w' ⟨rfl, ⟨nd, rfl⟩⟩; (try first | exact ⟨rfl, _, World.drewN_drewN _ _ _⟩ | exact ⟨rfl, _, Eq.trans (World.drewN_drewN _ _ _) (congrArg (World.drewN _) (Nat.add_assoc _ _ _))⟩))))
           refine bodyPost_ret (results_list (rs := [.tmp 4, .tmp 5, .tmp 6, .tmp 7]) rfl (by simp) (.tmp (.tmp (.tmp (.tmp .nil))))) rfl ?_
           exact ⟨by first | rfl | (simp [errW_none, errW_some] <;> rfl) | (simp [*, errW_none, errW_some] <;> rfl), by repeat (first | (with_reducible first | exact HB.out | apply below_alloc | apply pw_below_drewN | apply below_drew1) | exact HB.out)⟩
         ·rw [if_neg c80] at H
          exact absurd H (by simp)
        ·rw [if_neg c79] at H
         have c79b0 : decide (x9_5 < (a0.size : Int)) = false := decide_eq_false c79
         clear c79
         simp only [Option.some.injEq, Prod.mk.injEq] at H
         obtain ⟨rfl, rfl, rfl, rfl⟩ := H
         go_wp2
         repeat (go_quiet (fail); try go_wp2)
         refine bodyPost_ret (results_list (rs := [.tmp 4, .tmp 5, .tmp 6, .tmp 7]) rfl (by simp) (.tmp (.tmp (.tmp (.tmp .nil))))) rfl ?_
         exact ⟨by first | rfl | (simp [errW_none, errW_some] <;> rfl) | (simp [*, errW_none, errW_some] <;> rfl), by repeat (first | (with_reducible first | exact HB.out | apply below_alloc | apply pw_below_drewN | apply below_drew1) | exact HB.out)⟩
  ·rw [if_neg c4] at H
   exact absurd H (by simp)
 ·rw [if_neg c3] at H
  exact absurd H (by simp)

end Go.Proofs.Ytmjneidcdaapdaa.P
