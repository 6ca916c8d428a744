/- Reading a text: both sides the same. -/
import Derived.Test.YtimohodndbkchaaDoorCalT
namespace Go.Proofs.YtimohodndbkchaaDoor.P
open Go.RowKit Go.Proofs.YtimohodndbkchaaDoorW.PrintWords Go.Proofs.YtimohodndbkchaaDoorW.PrintLast

theorem okc_all (s : ByteArray) : (List.range 10).all (okc s) = true ↔ (bt s 4 = 45 ∧ bt s 7 = 45 ∧ (∀ u, u < 4 → isDig s (0 + u)) ∧ (∀ u, u < 2 → isDig s (5 + u)) ∧ (∀ u, u < 2 → isDig s (8 + u))) := by
  rw [List.all_eq_true]
  constructor
  · intro h
    have g := fun i hi => h i (List.mem_range.2 hi)
    refine ⟨of_decide_eq_true ((okc_dash s 4 (by decide)).symm.trans (g 4 (by decide))), of_decide_eq_true ((okc_dash s 7 (by decide)).symm.trans (g 7 (by decide))), fun u hu => ?_, fun u hu => ?_, fun u hu => ?_⟩
    · exact of_decide_eq_true ((okc_num s (0 + u) (by omega)).symm.trans (g (0 + u) (by omega)))
    · exact of_decide_eq_true ((okc_num s (5 + u) (by omega)).symm.trans (g (5 + u) (by omega)))
    · exact of_decide_eq_true ((okc_num s (8 + u) (by omega)).symm.trans (g (8 + u) (by omega)))
  · rintro ⟨a, b, c, d, e⟩ i hi
    have hi := List.mem_range.1 hi
    by_cases h4 : i = 4
    · subst h4; rw [okc_dash s 4 (by decide)]; exact decide_eq_true a
    · by_cases h7 : i = 7
      · subst h7; rw [okc_dash s 7 (by decide)]; exact decide_eq_true b
      · rw [okc_num s i (by omega)]
        refine decide_eq_true ?_
        by_cases x : i < 4
        · have := c i x; rw [Nat.zero_add] at this; exact this
        · by_cases y : i < 7
          · have := d (i - 5) (by omega); rw [show 5 + (i - 5) = i from by omega] at this; exact this
          · have := e (i - 8) (by omega); rw [show 8 + (i - 8) = i from by omega] at this; exact this
theorem rOf_bad (k : Nat) (y m d : Int) (h : ¬ isD y m d) : (lexpriorref03_Of.f (k + 14) y m d) = some (0, 31) := by rw [rOf_f, if_neg h]
theorem not_isD (y m d : Int) (h : y = -1 ∨ m = -1 ∨ d = -1) : ¬ isD y m d := by
  rintro ⟨⟨a, b, c, e⟩, f, g⟩
  omega
theorem rParse_f (k : Nat) (s : ByteArray) : lexpriorref03_Parse.f (k + 40) s = calendar_Parse.f s := by
  unfold lexpriorref03_Parse.f calendar_Parse.f
  have no : lexpriorref03_Parse.j0 (k + 40) s true = some (0, 31) := by rw [lexpriorref03_Parse.j0, if_pos rfl]
  by_cases h : s.size = 10
  · rw [if_pos (show (s.size : Int) = 10 by omega), if_pos (show 4 < (s.size : Int) by omega)]
    by_cases h4 : bt s 4 = 45
    · rw [if_pos h4, if_pos (show 7 < (s.size : Int) by omega)]
      by_cases h7 : bt s 7 = 45
      · rw [show (bt s 7 != 45) = false from by rw [h7]; rfl, lexpriorref03_Parse.j0, if_neg (by decide), if_pos (by decide), if_pos (show 4 ≤ (s.size : Int) by omega)]
        have n1 := number_f (k + 27) s (s.extract 0 4) 0 4 (by decide) (by rw [ByteArray.size_extract]; omega) (fun i hi => bt_extract s 0 4 (by omega) i (by omega))
        have n2 := number_f (k + 27) s (s.extract 5 7) 5 2 (by decide) (by rw [ByteArray.size_extract]; omega) (fun i hi => bt_extract s 5 7 (by omega) i (by omega))
        have n3 := number_f (k + 27) s (s.extract 8 s.size) 8 2 (by decide) (by rw [ByteArray.size_extract]; omega) (fun i hi => bt_extract s 8 s.size (by omega) i (by omega))
        rw [show k + 27 + 12 = k + 39 from rfl] at n1 n2 n3
        have fin : ∀ y m d, lexpriorref03_Of.f (k + 39) y m d = some (if isD y m d then (ofI y m d, 0) else (0, 31)) := fun y m d => rOf_f (k + 25) y m d
        rcases n1 with ⟨g1, e1⟩ | ⟨g1, e1⟩ <;> rcases n2 with ⟨g2, e2⟩ | ⟨g2, e2⟩ <;> rcases n3 with ⟨g3, e3⟩ | ⟨g3, e3⟩ <;> rw [e1] <;> simp only [Option.bind_some] <;> rw [if_pos (by decide), if_pos (show 7 ≤ (s.size : Int) by omega), e2] <;> simp only [Option.bind_some] <;> rw [if_pos (show 8 ≤ (s.size : Int) by omega), e3] <;> simp only [Option.bind_some] <;> rw [fin]
        · rw [if_pos (show s.size = 10 ∧ (List.range 10).all (okc s) = true from ⟨h, (okc_all s).2 ⟨h4, h7, g1, g2, g3⟩⟩), pst_num, Of_f]; rfl
        all_goals rw [if_neg (not_isD _ _ _ (by simp)), if_neg (fun x => by have y := (okc_all s).1 x.2; first | exact g1 y.2.2.1 | exact g2 y.2.2.2.1 | exact g3 y.2.2.2.2)]; rfl
      · rw [show (bt s 7 != 45) = true from bne_iff_ne.2 h7, no, if_neg (fun x => h7 ((okc_all s).1 x.2).2.1)]
    · rw [if_neg h4, no, if_neg (fun x => h4 ((okc_all s).1 x.2).1)]
  · rw [if_neg (by omega), no, if_neg (fun x => h x.1)]
end Go.Proofs.YtimohodndbkchaaDoor.P
