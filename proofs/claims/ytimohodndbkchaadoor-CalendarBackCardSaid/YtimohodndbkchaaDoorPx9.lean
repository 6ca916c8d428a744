-- Written by lexprint.py, a program of this session's own that runs the kit's print with turned rows. Lean checks it.
import Derived.Test.YtimohodndbkchaaDoorPx0
import Derived.Test.YtimohodndbkchaaDoorPx1
import Derived.Test.YtimohodndbkchaaDoorPx2
import Derived.Test.YtimohodndbkchaaDoorPx3
import Derived.Test.YtimohodndbkchaaDoorPx5
namespace Go.Proofs.YtimohodndbkchaaDoor.P
open Go.RowKit Go.Proofs.YtimohodndbkchaaDoorW.PrintWords Go.Proofs.YtimohodndbkchaaDoorW.PrintLast Go.Proofs.YtimohodndbkchaaDoorW.PrintMore
attribute [local go_sem] max2_int min2_int max_two min_two max_three min_three max_four min_four   -- for this text's walks alone
set_option linter.unusedVariables false
set_option linter.unusedSimpArgs false

/-! ### lexpriorlaw03_CalendarBack: function 9 -/
mutual
def lexpriorlaw03_CalendarBack.j0 : Nat → Int → Int → Int → Int → Bool → Option (Bool)
  | 0, _, _, _, _, _ => none
  | k + 1, x0, x3, x4, x5, x93 => if x93 = true then (some false) else (if x0 = 3652059 then (if x3 = 9999 then (if x4 = 12 then (some (x5 == 31)) else (some false)) else (some false)) else ((calendar_Parts.f (wrap64 (x0 + 1))).bind fun bt310 => ((calendar_Days.f x3 x4).bind fun bt314 => ((lexpriorlaw03_num.f bt310.2.2.2).bind fun t316 => (if t316 = 0 then ((lexpriorlaw03_num.f bt314.2).bind fun t317 => (lexpriorlaw03_CalendarBack.j1 k x3 x4 x5 bt310.1 bt310.2.1 bt310.2.2.1 bt314.1 (t317 != 0))) else (lexpriorlaw03_CalendarBack.j1 k x3 x4 x5 bt310.1 bt310.2.1 bt310.2.2.1 bt314.1 true))))))
def lexpriorlaw03_CalendarBack.j1 : Nat → Int → Int → Int → Int → Int → Int → Int → Bool → Option (Bool)
  | 0, _, _, _, _, _, _, _, _ => none
  | k + 1, x3, x4, x5, x15, x16, x17, x19, x127 => if x127 = true then (some false) else (if x5 < x19 then (if x15 = x3 then (if x16 = x4 then (some (x17 == (wrap64 (x5 + 1)))) else (some false)) else (some false)) else (if x4 < 12 then (if x15 = x3 then (if x16 = (wrap64 (x4 + 1)) then (some (x17 == 1)) else (some false)) else (some false)) else (if x15 = (wrap64 (x3 + 1)) then (if x16 = 1 then (some (x17 == 1)) else (some false)) else (some false))))
end
def lexpriorlaw03_CalendarBack.f (k : Nat) (a0 : Int) : Option (Bool) := (lexpriorlaw03_alive.f k).bind fun t291 => (if t291 = true then ((calendar_Parts.f a0).bind fun bt292 => ((lexpriorlaw03_num.f bt292.2.2.2).bind fun t296 => (if t296 = 0 then ((calendar_Of.f bt292.1 bt292.2.1 bt292.2.2.1).bind fun bt301 => ((calendar_Print.f k a0).bind fun bt303 => ((calendar_Parse.f bt303.1).bind fun bt305 => ((lexpriorlaw03_num.f bt301.2).bind fun t307 => (if t307 = 0 then (if bt301.1 = a0 then ((lexpriorlaw03_num.f bt303.2).bind fun t308 => (if t308 = 0 then ((lexpriorlaw03_num.f bt305.2).bind fun t309 => (if t309 = 0 then (if bt305.1 = a0 then (lexpriorlaw03_CalendarBack.j0 k a0 bt292.1 bt292.2.1 bt292.2.2.1 ((bt303.1.size : Int) != 10)) else (lexpriorlaw03_CalendarBack.j0 k a0 bt292.1 bt292.2.1 bt292.2.2.1 true)) else (lexpriorlaw03_CalendarBack.j0 k a0 bt292.1 bt292.2.1 bt292.2.2.1 true))) else (lexpriorlaw03_CalendarBack.j0 k a0 bt292.1 bt292.2.1 bt292.2.2.1 true))) else (lexpriorlaw03_CalendarBack.j0 k a0 bt292.1 bt292.2.1 bt292.2.2.1 true)) else (lexpriorlaw03_CalendarBack.j0 k a0 bt292.1 bt292.2.1 bt292.2.2.1 true)))))) else ((calendar_Print.f k a0).bind fun bt297 => (if a0 < 1 then ((lexpriorlaw03_num.f bt297.2).bind fun t299 => (some (t299 == 31))) else (if a0 > 3652059 then ((lexpriorlaw03_num.f bt297.2).bind fun t300 => (some (t300 == 31))) else (some false))))))) else (some false))
theorem lexpriorlaw03_CalendarBack.mono_l : ∀ k, (∀ y0 y1 y2 y3 y4, LeO (lexpriorlaw03_CalendarBack.j0 k y0 y1 y2 y3 y4) (lexpriorlaw03_CalendarBack.j0 (k + 1) y0 y1 y2 y3 y4)) ∧ (∀ y0 y1 y2 y3 y4 y5 y6 y7, LeO (lexpriorlaw03_CalendarBack.j1 k y0 y1 y2 y3 y4 y5 y6 y7) (lexpriorlaw03_CalendarBack.j1 (k + 1) y0 y1 y2 y3 y4 y5 y6 y7))
  | 0 => ⟨fun _ _ _ _ _ r h => by simp [lexpriorlaw03_CalendarBack.j0] at h, fun _ _ _ _ _ _ _ _ r h => by simp [lexpriorlaw03_CalendarBack.j1] at h⟩
  | k + 1 => by
    obtain ⟨ih0, ih1⟩ := lexpriorlaw03_CalendarBack.mono_l k
    refine ⟨?_, ?_⟩
    · intro y0 y1 y2 y3 y4
      unfold lexpriorlaw03_CalendarBack.j0
      repeat' first
      | (with_reducible exact ih0 _ _ _ _ _)
      | (with_reducible exact ih1 _ _ _ _ _ _ _ _)
      | (with_reducible exact calendar_Print.mono _ _)
      | (with_reducible exact lexpriorlaw03_alive.mono _)
      | (with_reducible exact LeO.refl _)
      | (with_reducible exact LeO.none _)
      | (with_reducible refine LeO.ite ?_ ?_)
      | (with_reducible refine LeO.bind ?_ (fun _ => ?_))
      | exact ih0 _ _ _ _ _
      | exact ih1 _ _ _ _ _ _ _ _
      | exact calendar_Print.mono _ _
      | exact lexpriorlaw03_alive.mono _
      | exact LeO.none _
      | refine LeO.ite ?_ ?_
      | refine LeO.bind ?_ (fun _ => ?_)
    · intro y0 y1 y2 y3 y4 y5 y6 y7
      unfold lexpriorlaw03_CalendarBack.j1
      repeat' first
      | (with_reducible exact ih0 _ _ _ _ _)
      | (with_reducible exact ih1 _ _ _ _ _ _ _ _)
      | (with_reducible exact calendar_Print.mono _ _)
      | (with_reducible exact lexpriorlaw03_alive.mono _)
      | (with_reducible exact LeO.refl _)
      | (with_reducible exact LeO.none _)
      | (with_reducible refine LeO.ite ?_ ?_)
      | (with_reducible refine LeO.bind ?_ (fun _ => ?_))
      | exact ih0 _ _ _ _ _
      | exact ih1 _ _ _ _ _ _ _ _
      | exact calendar_Print.mono _ _
      | exact lexpriorlaw03_alive.mono _
      | exact LeO.none _
      | refine LeO.ite ?_ ?_
      | refine LeO.bind ?_ (fun _ => ?_)
theorem lexpriorlaw03_CalendarBack.mono : ∀ a0 k, LeO (lexpriorlaw03_CalendarBack.f k a0) (lexpriorlaw03_CalendarBack.f (k + 1) a0) := by
  intro a0 k
  obtain ⟨ih0, ih1⟩ := lexpriorlaw03_CalendarBack.mono_l k
  unfold lexpriorlaw03_CalendarBack.f
  repeat' first
      | (with_reducible exact ih0 _ _ _ _ _)
      | (with_reducible exact ih1 _ _ _ _ _ _ _ _)
      | (with_reducible exact calendar_Print.mono _ _)
      | (with_reducible exact lexpriorlaw03_alive.mono _)
      | (with_reducible exact LeO.refl _)
      | (with_reducible exact LeO.none _)
      | (with_reducible refine LeO.ite ?_ ?_)
      | (with_reducible refine LeO.bind ?_ (fun _ => ?_))
      | exact ih0 _ _ _ _ _
      | exact ih1 _ _ _ _ _ _ _ _
      | exact calendar_Print.mono _ _
      | exact lexpriorlaw03_alive.mono _
      | exact LeO.none _
      | refine LeO.ite ?_ ?_
      | refine LeO.bind ?_ (fun _ => ?_)
set_option maxHeartbeats 8000000 in
set_option maxRecDepth 100000 in
theorem lexpriorlaw03_CalendarBack.calls (k : Nat) (a0 : Int) (r : Bool) (w : World) (h : lexpriorlaw03_CalendarBack.f k a0 = some r) (HTAB : TabT w) :
    Calls Tryd.prog 9 #[.int .i64 a0] w fun e w' => e = .returned (.bool r) ∧ Below w.heap.size w w' := by
  have HB := Aside0.mk (Below.refl w.heap.size w)
  have H : ((lexpriorlaw03_alive.f k).bind fun t291 => (if t291 = true then ((calendar_Parts.f a0).bind fun bt292 => ((lexpriorlaw03_num.f bt292.2.2.2).bind fun t296 => (if t296 = 0 then ((calendar_Of.f bt292.1 bt292.2.1 bt292.2.2.1).bind fun bt301 => ((calendar_Print.f k a0).bind fun bt303 => ((calendar_Parse.f bt303.1).bind fun bt305 => ((lexpriorlaw03_num.f bt301.2).bind fun t307 => (if t307 = 0 then (if bt301.1 = a0 then ((lexpriorlaw03_num.f bt303.2).bind fun t308 => (if t308 = 0 then ((lexpriorlaw03_num.f bt305.2).bind fun t309 => (if t309 = 0 then (if bt305.1 = a0 then (lexpriorlaw03_CalendarBack.j0 k a0 bt292.1 bt292.2.1 bt292.2.2.1 ((bt303.1.size : Int) != 10)) else (lexpriorlaw03_CalendarBack.j0 k a0 bt292.1 bt292.2.1 bt292.2.2.1 true)) else (lexpriorlaw03_CalendarBack.j0 k a0 bt292.1 bt292.2.1 bt292.2.2.1 true))) else (lexpriorlaw03_CalendarBack.j0 k a0 bt292.1 bt292.2.1 bt292.2.2.1 true))) else (lexpriorlaw03_CalendarBack.j0 k a0 bt292.1 bt292.2.1 bt292.2.2.1 true)) else (lexpriorlaw03_CalendarBack.j0 k a0 bt292.1 bt292.2.1 bt292.2.2.1 true)))))) else ((calendar_Print.f k a0).bind fun bt297 => (if a0 < 1 then ((lexpriorlaw03_num.f bt297.2).bind fun t299 => (some (t299 == 31))) else (if a0 > 3652059 then ((lexpriorlaw03_num.f bt297.2).bind fun t300 => (some (t300 == 31))) else (some false))))))) else (some false))) = some r := h
  clear h
  replace H := Option.bind_eq_some_iff.mp H
  obtain ⟨t291, A20, H⟩ := H
  replace H : (if t291 = true then ((calendar_Parts.f a0).bind fun bt292 => ((lexpriorlaw03_num.f bt292.2.2.2).bind fun t296 => (if t296 = 0 then ((calendar_Of.f bt292.1 bt292.2.1 bt292.2.2.1).bind fun bt301 => ((calendar_Print.f k a0).bind fun bt303 => ((calendar_Parse.f bt303.1).bind fun bt305 => ((lexpriorlaw03_num.f bt301.2).bind fun t307 => (if t307 = 0 then (if bt301.1 = a0 then ((lexpriorlaw03_num.f bt303.2).bind fun t308 => (if t308 = 0 then ((lexpriorlaw03_num.f bt305.2).bind fun t309 => (if t309 = 0 then (if bt305.1 = a0 then (lexpriorlaw03_CalendarBack.j0 k a0 bt292.1 bt292.2.1 bt292.2.2.1 ((bt303.1.size : Int) != 10)) else (lexpriorlaw03_CalendarBack.j0 k a0 bt292.1 bt292.2.1 bt292.2.2.1 true)) else (lexpriorlaw03_CalendarBack.j0 k a0 bt292.1 bt292.2.1 bt292.2.2.1 true))) else (lexpriorlaw03_CalendarBack.j0 k a0 bt292.1 bt292.2.1 bt292.2.2.1 true))) else (lexpriorlaw03_CalendarBack.j0 k a0 bt292.1 bt292.2.1 bt292.2.2.1 true)) else (lexpriorlaw03_CalendarBack.j0 k a0 bt292.1 bt292.2.1 bt292.2.2.1 true)))))) else ((calendar_Print.f k a0).bind fun bt297 => (if a0 < 1 then ((lexpriorlaw03_num.f bt297.2).bind fun t299 => (some (t299 == 31))) else (if a0 > 3652059 then ((lexpriorlaw03_num.f bt297.2).bind fun t300 => (some (t300 == 31))) else (some false))))))) else (some false)) = some r := H
  have A2 := Aside0.mk A20
  clear A20
  by_cases c3 : t291 = true
  · subst c3
    have H1 : ((calendar_Parts.f a0).bind fun bt292 => ((lexpriorlaw03_num.f bt292.2.2.2).bind fun t296 => (if t296 = 0 then ((calendar_Of.f bt292.1 bt292.2.1 bt292.2.2.1).bind fun bt301 => ((calendar_Print.f k a0).bind fun bt303 => ((calendar_Parse.f bt303.1).bind fun bt305 => ((lexpriorlaw03_num.f bt301.2).bind fun t307 => (if t307 = 0 then (if bt301.1 = a0 then ((lexpriorlaw03_num.f bt303.2).bind fun t308 => (if t308 = 0 then ((lexpriorlaw03_num.f bt305.2).bind fun t309 => (if t309 = 0 then (if bt305.1 = a0 then (lexpriorlaw03_CalendarBack.j0 k a0 bt292.1 bt292.2.1 bt292.2.2.1 ((bt303.1.size : Int) != 10)) else (lexpriorlaw03_CalendarBack.j0 k a0 bt292.1 bt292.2.1 bt292.2.2.1 true)) else (lexpriorlaw03_CalendarBack.j0 k a0 bt292.1 bt292.2.1 bt292.2.2.1 true))) else (lexpriorlaw03_CalendarBack.j0 k a0 bt292.1 bt292.2.1 bt292.2.2.1 true))) else (lexpriorlaw03_CalendarBack.j0 k a0 bt292.1 bt292.2.1 bt292.2.2.1 true)) else (lexpriorlaw03_CalendarBack.j0 k a0 bt292.1 bt292.2.1 bt292.2.2.1 true)))))) else ((calendar_Print.f k a0).bind fun bt297 => (if a0 < 1 then ((lexpriorlaw03_num.f bt297.2).bind fun t299 => (some (t299 == 31))) else (if a0 > 3652059 then ((lexpriorlaw03_num.f bt297.2).bind fun t300 => (some (t300 == 31))) else (some false))))))) = some r := by rw [if_pos rfl] at H; exact H
    clear H
    have H := H1
    clear H1
    replace H := Option.bind_eq_some_iff.mp H
    obtain ⟨⟨t292, t293, t294, t295⟩, A40, H⟩ := H
    replace H : ((lexpriorlaw03_num.f t295).bind fun t296 => (if t296 = 0 then ((calendar_Of.f t292 t293 t294).bind fun bt301 => ((calendar_Print.f k a0).bind fun bt303 => ((calendar_Parse.f bt303.1).bind fun bt305 => ((lexpriorlaw03_num.f bt301.2).bind fun t307 => (if t307 = 0 then (if bt301.1 = a0 then ((lexpriorlaw03_num.f bt303.2).bind fun t308 => (if t308 = 0 then ((lexpriorlaw03_num.f bt305.2).bind fun t309 => (if t309 = 0 then (if bt305.1 = a0 then (lexpriorlaw03_CalendarBack.j0 k a0 t292 t293 t294 ((bt303.1.size : Int) != 10)) else (lexpriorlaw03_CalendarBack.j0 k a0 t292 t293 t294 true)) else (lexpriorlaw03_CalendarBack.j0 k a0 t292 t293 t294 true))) else (lexpriorlaw03_CalendarBack.j0 k a0 t292 t293 t294 true))) else (lexpriorlaw03_CalendarBack.j0 k a0 t292 t293 t294 true)) else (lexpriorlaw03_CalendarBack.j0 k a0 t292 t293 t294 true)))))) else ((calendar_Print.f k a0).bind fun bt297 => (if a0 < 1 then ((lexpriorlaw03_num.f bt297.2).bind fun t299 => (some (t299 == 31))) else (if a0 > 3652059 then ((lexpriorlaw03_num.f bt297.2).bind fun t300 => (some (t300 == 31))) else (some false)))))) = some r := H
    have A4 := Aside0.mk A40
    clear A40
    replace H := Option.bind_eq_some_iff.mp H
    obtain ⟨t296, A50, H⟩ := H
    replace H : (if t296 = 0 then ((calendar_Of.f t292 t293 t294).bind fun bt301 => ((calendar_Print.f k a0).bind fun bt303 => ((calendar_Parse.f bt303.1).bind fun bt305 => ((lexpriorlaw03_num.f bt301.2).bind fun t307 => (if t307 = 0 then (if bt301.1 = a0 then ((lexpriorlaw03_num.f bt303.2).bind fun t308 => (if t308 = 0 then ((lexpriorlaw03_num.f bt305.2).bind fun t309 => (if t309 = 0 then (if bt305.1 = a0 then (lexpriorlaw03_CalendarBack.j0 k a0 t292 t293 t294 ((bt303.1.size : Int) != 10)) else (lexpriorlaw03_CalendarBack.j0 k a0 t292 t293 t294 true)) else (lexpriorlaw03_CalendarBack.j0 k a0 t292 t293 t294 true))) else (lexpriorlaw03_CalendarBack.j0 k a0 t292 t293 t294 true))) else (lexpriorlaw03_CalendarBack.j0 k a0 t292 t293 t294 true)) else (lexpriorlaw03_CalendarBack.j0 k a0 t292 t293 t294 true)))))) else ((calendar_Print.f k a0).bind fun bt297 => (if a0 < 1 then ((lexpriorlaw03_num.f bt297.2).bind fun t299 => (some (t299 == 31))) else (if a0 > 3652059 then ((lexpriorlaw03_num.f bt297.2).bind fun t300 => (some (t300 == 31))) else (some false))))) = some r := H
    have A5 := Aside0.mk A50
    clear A50
    by_cases c6 : t296 = 0
    · rw [if_pos c6] at H
      have c6b0 : (t296 == 0) = true := beq_iff_eq.mpr c6
      have c6b1 : (t296 != 0) = false := bne_eq_false_iff_eq.mpr c6
      clear c6
      replace H := Option.bind_eq_some_iff.mp H
      obtain ⟨⟨t301, t302⟩, A70, H⟩ := H
      replace H : ((calendar_Print.f k a0).bind fun bt303 => ((calendar_Parse.f bt303.1).bind fun bt305 => ((lexpriorlaw03_num.f t302).bind fun t307 => (if t307 = 0 then (if t301 = a0 then ((lexpriorlaw03_num.f bt303.2).bind fun t308 => (if t308 = 0 then ((lexpriorlaw03_num.f bt305.2).bind fun t309 => (if t309 = 0 then (if bt305.1 = a0 then (lexpriorlaw03_CalendarBack.j0 k a0 t292 t293 t294 ((bt303.1.size : Int) != 10)) else (lexpriorlaw03_CalendarBack.j0 k a0 t292 t293 t294 true)) else (lexpriorlaw03_CalendarBack.j0 k a0 t292 t293 t294 true))) else (lexpriorlaw03_CalendarBack.j0 k a0 t292 t293 t294 true))) else (lexpriorlaw03_CalendarBack.j0 k a0 t292 t293 t294 true)) else (lexpriorlaw03_CalendarBack.j0 k a0 t292 t293 t294 true))))) = some r := H
      have A7 := Aside0.mk A70
      clear A70
      replace H := Option.bind_eq_some_iff.mp H
      obtain ⟨⟨t303, t304⟩, A80, H⟩ := H
      replace H : ((calendar_Parse.f t303).bind fun bt305 => ((lexpriorlaw03_num.f t302).bind fun t307 => (if t307 = 0 then (if t301 = a0 then ((lexpriorlaw03_num.f t304).bind fun t308 => (if t308 = 0 then ((lexpriorlaw03_num.f bt305.2).bind fun t309 => (if t309 = 0 then (if bt305.1 = a0 then (lexpriorlaw03_CalendarBack.j0 k a0 t292 t293 t294 ((t303.size : Int) != 10)) else (lexpriorlaw03_CalendarBack.j0 k a0 t292 t293 t294 true)) else (lexpriorlaw03_CalendarBack.j0 k a0 t292 t293 t294 true))) else (lexpriorlaw03_CalendarBack.j0 k a0 t292 t293 t294 true))) else (lexpriorlaw03_CalendarBack.j0 k a0 t292 t293 t294 true)) else (lexpriorlaw03_CalendarBack.j0 k a0 t292 t293 t294 true)))) = some r := H
      have A8 := Aside0.mk A80
      clear A80
      replace H := Option.bind_eq_some_iff.mp H
      obtain ⟨⟨t305, t306⟩, A90, H⟩ := H
      replace H : ((lexpriorlaw03_num.f t302).bind fun t307 => (if t307 = 0 then (if t301 = a0 then ((lexpriorlaw03_num.f t304).bind fun t308 => (if t308 = 0 then ((lexpriorlaw03_num.f t306).bind fun t309 => (if t309 = 0 then (if t305 = a0 then (lexpriorlaw03_CalendarBack.j0 k a0 t292 t293 t294 ((t303.size : Int) != 10)) else (lexpriorlaw03_CalendarBack.j0 k a0 t292 t293 t294 true)) else (lexpriorlaw03_CalendarBack.j0 k a0 t292 t293 t294 true))) else (lexpriorlaw03_CalendarBack.j0 k a0 t292 t293 t294 true))) else (lexpriorlaw03_CalendarBack.j0 k a0 t292 t293 t294 true)) else (lexpriorlaw03_CalendarBack.j0 k a0 t292 t293 t294 true))) = some r := H
      have A9 := Aside0.mk A90
      clear A90
      have HC10 := Aside0.mk H
      clear H
      go_enter Tryd.func9, Tryd.ntmps9
      go_upto_region 10 with (first | ((with_reducible refine gate_callee (f := 10) rfl ?_); refine goesL_ (some 21) rfl rfl Tryd.func10 (by kernel_rfl) rfl #[] rfl (by (try simp only [List.map_toArray, List.map_cons, List.map_nil]); first | done | rfl | (simp only [List.length_drop, List.length_take]; rfl)) ?_; (with_reducible refine (lexpriorlaw03_alive.calls k  true _ A2.out (tabT_on HTAB (by repeat (first | (with_reducible first | exact HB.out | apply below_alloc | apply pw_below_drewN | apply below_drew1 | exact Below.refl _ _) | exact HB.out | exact Below.refl _ _)))).mono ?_); rintro e w11 ⟨rfl, hb⟩; refine ⟨_, rfl, ?_⟩; have n0_ := Aside0.mk (below_step (by repeat (first | (with_reducible first | exact HB.out | apply below_alloc | apply pw_below_drewN | apply below_drew1) | exact HB.out)) hb); clear HB; have HB := n0_; clear n0_; (try clear hb); (try clear hb2); (try clear hk); (try clear hi)) | ((with_reducible refine gate_callee (f := 13) rfl ?_); refine goesL_ (some 25) rfl rfl Tryd.func13 (by kernel_rfl) rfl #[.int .i64 a0] rfl (by (try simp only [List.map_toArray, List.map_cons, List.map_nil]); first | done | rfl | (simp only [List.length_drop, List.length_take]; rfl)) ?_; (with_reducible refine (calendar_Parts.calls a0 t292 t293 t294 t295 _ A4.out).mono ?_); rintro e w12 ⟨rfl, hb⟩; refine ⟨_, rfl, ?_⟩; have n0_ := Aside0.mk (below_step (by repeat (first | (with_reducible first | exact HB.out | apply below_alloc | apply pw_below_drewN | apply below_drew1) | exact HB.out)) hb); clear HB; have HB := n0_; clear n0_; (try clear hb); (try clear hb2); (try clear hk); (try clear hi)) | ((with_reducible refine gate_callee (f := 12) rfl ?_); refine goesL_ (some 31) rfl rfl Tryd.func12 (by kernel_rfl) rfl #[.int .i64 t295] rfl (by (try simp only [List.map_toArray, List.map_cons, List.map_nil]); first | done | rfl | (simp only [List.length_drop, List.length_take]; rfl)) ?_; (with_reducible refine (lexpriorlaw03_num.calls t295 t296 _ A5.out).mono ?_); rintro e w' ⟨rfl, ⟨nd, rfl⟩⟩; refine ⟨_, rfl, ?_⟩) | ((with_reducible refine gate_callee (f := 14) rfl ?_); refine goesL_ (some 53) rfl rfl Tryd.func14 (by kernel_rfl) rfl #[.int .i64 t292, .int .i64 t293, .int .i64 t294] rfl (by (try simp only [List.map_toArray, List.map_cons, List.map_nil]); first | done | rfl | (simp only [List.length_drop, List.length_take]; rfl)) ?_; (with_reducible refine (calendar_Of.calls t292 t293 t294 t301 t302 _ A7.out).mono ?_); rintro e w13 ⟨rfl, hb⟩; refine ⟨_, rfl, ?_⟩; have n0_ := Aside0.mk (below_step (by repeat (first | (with_reducible first | exact HB.out | apply below_alloc | apply pw_below_drewN | apply below_drew1) | exact HB.out)) hb); clear HB; have HB := n0_; clear n0_; (try clear hb); (try clear hb2); (try clear hk); (try clear hi)) | ((with_reducible refine gate_callee (f := 22) rfl ?_); refine goesL_ (some 58) rfl rfl Tryd.func22 (by kernel_rfl) rfl #[.int .i64 a0] rfl (by (try simp only [List.map_toArray, List.map_cons, List.map_nil]); first | done | rfl | (simp only [List.length_drop, List.length_take]; rfl)) ?_; (with_reducible refine (calendar_Print.calls k a0 t303 t304 _ A8.out (tabT_on HTAB (by repeat (first | (with_reducible first | exact HB.out | apply below_alloc | apply pw_below_drewN | apply below_drew1 | exact Below.refl _ _) | exact HB.out | exact Below.refl _ _)))).mono ?_); rintro e w14 ⟨rfl, hb⟩; refine ⟨_, rfl, ?_⟩; have n0_ := Aside0.mk (below_step (by repeat (first | (with_reducible first | exact HB.out | apply below_alloc | apply pw_below_drewN | apply below_drew1) | exact HB.out)) hb); clear HB; have HB := n0_; clear n0_; (try clear hb); (try clear hb2); (try clear hk); (try clear hi)) | ((with_reducible refine gate_callee (f := 20) rfl ?_); refine goesL_ (some 63) rfl rfl Tryd.func20 (by kernel_rfl) rfl #[.string t303] rfl (by (try simp only [List.map_toArray, List.map_cons, List.map_nil]); first | done | rfl | (simp only [List.length_drop, List.length_take]; rfl)) ?_; (with_reducible refine (calendar_Parse.calls t303 t305 t306 _ A9.out).mono ?_); rintro e w15 ⟨rfl, hb⟩; refine ⟨_, rfl, ?_⟩; have n0_ := Aside0.mk (below_step (by repeat (first | (with_reducible first | exact HB.out | apply below_alloc | apply pw_below_drewN | apply below_drew1) | exact HB.out)) hb); clear HB; have HB := n0_; clear n0_; (try clear hb); (try clear hb2); (try clear hk); (try clear hi)))
      (try simp only [Act.put, List.setIfInBounds_toArray, List.set_cons_zero, List.set_cons_succ])
      go_cut [93] (fun v93 wc => ∃ (kq : Nat) (x93_9 : Bool), v93 = .bool x93_9 ∧ Aside0 (lexpriorlaw03_CalendarBack.j0 kq a0 t292 t293 t294 x93_9 = some r) ∧ Aside0 (kq ≤ k) ∧ Aside0 (Below w.heap.size w wc))
      case first =>
        have H := HC10.out
        clear HC10
        replace H := Option.bind_eq_some_iff.mp H
        obtain ⟨t307, A160, H⟩ := H
        replace H : (if t307 = 0 then (if t301 = a0 then ((lexpriorlaw03_num.f t304).bind fun t308 => (if t308 = 0 then ((lexpriorlaw03_num.f t306).bind fun t309 => (if t309 = 0 then (if t305 = a0 then (lexpriorlaw03_CalendarBack.j0 k a0 t292 t293 t294 ((t303.size : Int) != 10)) else (lexpriorlaw03_CalendarBack.j0 k a0 t292 t293 t294 true)) else (lexpriorlaw03_CalendarBack.j0 k a0 t292 t293 t294 true))) else (lexpriorlaw03_CalendarBack.j0 k a0 t292 t293 t294 true))) else (lexpriorlaw03_CalendarBack.j0 k a0 t292 t293 t294 true)) else (lexpriorlaw03_CalendarBack.j0 k a0 t292 t293 t294 true)) = some r := H
        have A16 := Aside0.mk A160
        clear A160
        by_cases c17 : t307 = 0
        · rw [if_pos c17] at H
          have c17b0 : (t307 == 0) = true := beq_iff_eq.mpr c17
          have c17b1 : (t307 != 0) = false := bne_eq_false_iff_eq.mpr c17
          clear c17
          (first | rw [c17b0] | (simp only [i64_w, i32_w]; rw [c17b0]) | skip)
          by_cases c18 : t301 = a0
          · rw [if_pos c18] at H
            have c18b0 : (t301 == a0) = true := beq_iff_eq.mpr c18
            have c18b1 : (t301 != a0) = false := bne_eq_false_iff_eq.mpr c18
            clear c18
            replace H := Option.bind_eq_some_iff.mp H
            obtain ⟨t308, A190, H⟩ := H
            replace H : (if t308 = 0 then ((lexpriorlaw03_num.f t306).bind fun t309 => (if t309 = 0 then (if t305 = a0 then (lexpriorlaw03_CalendarBack.j0 k a0 t292 t293 t294 ((t303.size : Int) != 10)) else (lexpriorlaw03_CalendarBack.j0 k a0 t292 t293 t294 true)) else (lexpriorlaw03_CalendarBack.j0 k a0 t292 t293 t294 true))) else (lexpriorlaw03_CalendarBack.j0 k a0 t292 t293 t294 true)) = some r := H
            have A19 := Aside0.mk A190
            clear A190
            by_cases c20 : t308 = 0
            · rw [if_pos c20] at H
              have c20b0 : (t308 == 0) = true := beq_iff_eq.mpr c20
              have c20b1 : (t308 != 0) = false := bne_eq_false_iff_eq.mpr c20
              clear c20
              replace H := Option.bind_eq_some_iff.mp H
              obtain ⟨t309, A210, H⟩ := H
              replace H : (if t309 = 0 then (if t305 = a0 then (lexpriorlaw03_CalendarBack.j0 k a0 t292 t293 t294 ((t303.size : Int) != 10)) else (lexpriorlaw03_CalendarBack.j0 k a0 t292 t293 t294 true)) else (lexpriorlaw03_CalendarBack.j0 k a0 t292 t293 t294 true)) = some r := H
              have A21 := Aside0.mk A210
              clear A210
              by_cases c22 : t309 = 0
              · rw [if_pos c22] at H
                have c22b0 : (t309 == 0) = true := beq_iff_eq.mpr c22
                have c22b1 : (t309 != 0) = false := bne_eq_false_iff_eq.mpr c22
                clear c22
                by_cases c23 : t305 = a0
                · rw [if_pos c23] at H
                  have c23b0 : (t305 == a0) = true := beq_iff_eq.mpr c23
                  have c23b1 : (t305 != a0) = false := bne_eq_false_iff_eq.mpr c23
                  clear c23
                  have H' := Aside0.mk H
                  clear H
                  go_wp2_with (first | ((with_reducible refine gate_callee (f := 12) rfl ?_); refine goesL_ (some 67) rfl rfl Tryd.func12 (by kernel_rfl) rfl #[.int .i64 t302] rfl (by (try simp only [List.map_toArray, List.map_cons, List.map_nil]); first | done | rfl | (simp only [List.length_drop, List.length_take]; rfl)) ?_; (with_reducible refine (lexpriorlaw03_num.calls t302 t307 _ A16.out).mono ?_); rintro e w' ⟨rfl, ⟨nd, rfl⟩⟩; refine ⟨_, rfl, ?_⟩) | (go_at_call 12; (with_reducible refine (lexpriorlaw03_num.calls t304 t308 _ A19.out).mono ?_); rintro e w' ⟨rfl, ⟨nd, rfl⟩⟩) | (go_at_call 12; (with_reducible refine (lexpriorlaw03_num.calls t306 t309 _ A21.out).mono ?_); rintro e w' ⟨rfl, ⟨nd, rfl⟩⟩))
                  go_meet
                  case rel => exact ⟨_, (((t303.size : Int) != 10)), (by first | rfl | (simp; done) | (simp [*]; done)), H', ⟨by first | omega | exact Nat.le_refl _⟩, ⟨by repeat (first | (with_reducible first | exact HB.out | apply below_alloc | apply pw_below_drewN | apply below_drew1) | exact HB.out)⟩⟩
                · rw [if_neg c23] at H
                  have c23b0 : (t305 == a0) = false := beq_eq_false_iff_ne.mpr c23
                  have c23b1 : (t305 != a0) = true := bne_iff_ne.mpr c23
                  have H' := Aside0.mk H
                  clear H
                  go_wp2_with (first | ((with_reducible refine gate_callee (f := 12) rfl ?_); refine goesL_ (some 67) rfl rfl Tryd.func12 (by kernel_rfl) rfl #[.int .i64 t302] rfl (by (try simp only [List.map_toArray, List.map_cons, List.map_nil]); first | done | rfl | (simp only [List.length_drop, List.length_take]; rfl)) ?_; (with_reducible refine (lexpriorlaw03_num.calls t302 t307 _ A16.out).mono ?_); rintro e w' ⟨rfl, ⟨nd, rfl⟩⟩; refine ⟨_, rfl, ?_⟩) | (go_at_call 12; (with_reducible refine (lexpriorlaw03_num.calls t304 t308 _ A19.out).mono ?_); rintro e w' ⟨rfl, ⟨nd, rfl⟩⟩) | (go_at_call 12; (with_reducible refine (lexpriorlaw03_num.calls t306 t309 _ A21.out).mono ?_); rintro e w' ⟨rfl, ⟨nd, rfl⟩⟩))
                  go_meet
                  case rel => exact ⟨_, (true), (by first | rfl | (simp; done) | (simp [*]; done)), H', ⟨by first | omega | exact Nat.le_refl _⟩, ⟨by repeat (first | (with_reducible first | exact HB.out | apply below_alloc | apply pw_below_drewN | apply below_drew1) | exact HB.out)⟩⟩
              · rw [if_neg c22] at H
                have c22b0 : (t309 == 0) = false := beq_eq_false_iff_ne.mpr c22
                have c22b1 : (t309 != 0) = true := bne_iff_ne.mpr c22
                have H' := Aside0.mk H
                clear H
                go_wp2_with (first | ((with_reducible refine gate_callee (f := 12) rfl ?_); refine goesL_ (some 67) rfl rfl Tryd.func12 (by kernel_rfl) rfl #[.int .i64 t302] rfl (by (try simp only [List.map_toArray, List.map_cons, List.map_nil]); first | done | rfl | (simp only [List.length_drop, List.length_take]; rfl)) ?_; (with_reducible refine (lexpriorlaw03_num.calls t302 t307 _ A16.out).mono ?_); rintro e w' ⟨rfl, ⟨nd, rfl⟩⟩; refine ⟨_, rfl, ?_⟩) | (go_at_call 12; (with_reducible refine (lexpriorlaw03_num.calls t304 t308 _ A19.out).mono ?_); rintro e w' ⟨rfl, ⟨nd, rfl⟩⟩) | (go_at_call 12; (with_reducible refine (lexpriorlaw03_num.calls t306 t309 _ A21.out).mono ?_); rintro e w' ⟨rfl, ⟨nd, rfl⟩⟩))
                go_meet
                case rel => exact ⟨_, (true), (by first | rfl | (simp; done) | (simp [*]; done)), H', ⟨by first | omega | exact Nat.le_refl _⟩, ⟨by repeat (first | (with_reducible first | exact HB.out | apply below_alloc | apply pw_below_drewN | apply below_drew1) | exact HB.out)⟩⟩
            · rw [if_neg c20] at H
              have c20b0 : (t308 == 0) = false := beq_eq_false_iff_ne.mpr c20
              have c20b1 : (t308 != 0) = true := bne_iff_ne.mpr c20
              have H' := Aside0.mk H
              clear H
              go_wp2_with (first | ((with_reducible refine gate_callee (f := 12) rfl ?_); refine goesL_ (some 67) rfl rfl Tryd.func12 (by kernel_rfl) rfl #[.int .i64 t302] rfl (by (try simp only [List.map_toArray, List.map_cons, List.map_nil]); first | done | rfl | (simp only [List.length_drop, List.length_take]; rfl)) ?_; (with_reducible refine (lexpriorlaw03_num.calls t302 t307 _ A16.out).mono ?_); rintro e w' ⟨rfl, ⟨nd, rfl⟩⟩; refine ⟨_, rfl, ?_⟩) | (go_at_call 12; (with_reducible refine (lexpriorlaw03_num.calls t304 t308 _ A19.out).mono ?_); rintro e w' ⟨rfl, ⟨nd, rfl⟩⟩))
              go_meet
              case rel => exact ⟨_, (true), (by first | rfl | (simp; done) | (simp [*]; done)), H', ⟨by first | omega | exact Nat.le_refl _⟩, ⟨by repeat (first | (with_reducible first | exact HB.out | apply below_alloc | apply pw_below_drewN | apply below_drew1) | exact HB.out)⟩⟩
          · rw [if_neg c18] at H
            have c18b0 : (t301 == a0) = false := beq_eq_false_iff_ne.mpr c18
            have c18b1 : (t301 != a0) = true := bne_iff_ne.mpr c18
            have H' := Aside0.mk H
            clear H
            go_wp2_with (first | ((with_reducible refine gate_callee (f := 12) rfl ?_); refine goesL_ (some 67) rfl rfl Tryd.func12 (by kernel_rfl) rfl #[.int .i64 t302] rfl (by (try simp only [List.map_toArray, List.map_cons, List.map_nil]); first | done | rfl | (simp only [List.length_drop, List.length_take]; rfl)) ?_; (with_reducible refine (lexpriorlaw03_num.calls t302 t307 _ A16.out).mono ?_); rintro e w' ⟨rfl, ⟨nd, rfl⟩⟩; refine ⟨_, rfl, ?_⟩))
            go_meet
            case rel => exact ⟨_, (true), (by first | rfl | (simp; done) | (simp [*]; done)), H', ⟨by first | omega | exact Nat.le_refl _⟩, ⟨by repeat (first | (with_reducible first | exact HB.out | apply below_alloc | apply pw_below_drewN | apply below_drew1) | exact HB.out)⟩⟩
        · rw [if_neg c17] at H
          have c17b0 : (t307 == 0) = false := beq_eq_false_iff_ne.mpr c17
          have c17b1 : (t307 != 0) = true := bne_iff_ne.mpr c17
          (first | rw [c17b0] | (simp only [i64_w, i32_w]; rw [c17b0]) | skip)
          have H' := Aside0.mk H
          clear H
          go_wp2_with (first | ((with_reducible refine gate_callee (f := 12) rfl ?_); refine goesL_ (some 67) rfl rfl Tryd.func12 (by kernel_rfl) rfl #[.int .i64 t302] rfl (by (try simp only [List.map_toArray, List.map_cons, List.map_nil]); first | done | rfl | (simp only [List.length_drop, List.length_take]; rfl)) ?_; (with_reducible refine (lexpriorlaw03_num.calls t302 t307 _ A16.out).mono ?_); rintro e w' ⟨rfl, ⟨nd, rfl⟩⟩; refine ⟨_, rfl, ?_⟩))
          go_meet
          case rel => exact ⟨_, (true), (by first | rfl | (simp; done) | (simp [*]; done)), H', ⟨by first | omega | exact Nat.le_refl _⟩, ⟨by repeat (first | (with_reducible first | exact HB.out | apply below_alloc | apply pw_below_drewN | apply below_drew1) | exact HB.out)⟩⟩
      case rest =>
        clear HC10
        try clear c1
        try clear c2
        try clear p2
        try clear c3
        try clear c6
        try clear c6b0
        try clear c6b1
        try clear c9
        try clear c10
        try clear c12
        try clear c13
        try clear c14
        try clear c17
        try clear c17b0
        try clear c17b1
        try clear c18
        try clear c18b0
        try clear c18b1
        try clear c20
        try clear c20b0
        try clear c20b1
        try clear c22
        try clear c22b0
        try clear c22b1
        try clear c23
        try clear c23b0
        try clear c23b1
        obtain ⟨kq, x93_9, rfl, HA, HJ9, HB⟩ := hcut
        cases kq with
        | zero => exact absurd HA.out (by simp [lexpriorlaw03_CalendarBack.j0])
        | succ kj9 =>
          have H := HA.out
          clear HA
          simp only [lexpriorlaw03_CalendarBack.j0] at H
          by_cases c24 : x93_9 = true
          · subst c24
            have H1 : (some false) = some r := by rw [if_pos rfl] at H; exact H
            clear H
            have H := H1
            clear H1
            obtain rfl := Option.some.inj H
            go_wp2
            go_ret
            exact ⟨by first | rfl | (simp [errW_none, errW_some] <;> rfl) | (simp [*, errW_none, errW_some] <;> rfl), by repeat (first | (with_reducible first | exact HB.out | apply below_alloc | apply pw_below_drewN | apply below_drew1) | exact HB.out)⟩
          · replace c24 := Bool.eq_false_iff.mpr c24
            subst c24
            have H1 : (if a0 = 3652059 then (if t292 = 9999 then (if t293 = 12 then (some (t294 == 31)) else (some false)) else (some false)) else ((calendar_Parts.f (wrap64 (a0 + 1))).bind fun bt310 => ((calendar_Days.f t292 t293).bind fun bt314 => ((lexpriorlaw03_num.f bt310.2.2.2).bind fun t316 => (if t316 = 0 then ((lexpriorlaw03_num.f bt314.2).bind fun t317 => (lexpriorlaw03_CalendarBack.j1 kj9 t292 t293 t294 bt310.1 bt310.2.1 bt310.2.2.1 bt314.1 (t317 != 0))) else (lexpriorlaw03_CalendarBack.j1 kj9 t292 t293 t294 bt310.1 bt310.2.1 bt310.2.2.1 bt314.1 true)))))) = some r := by rw [if_neg (show ¬ (false = true) by decide)] at H; exact H
            clear H
            have H := H1
            clear H1
            by_cases c25 : a0 = 3652059
            · rw [if_pos c25] at H
              have c25b0 : (a0 == 3652059) = true := beq_iff_eq.mpr c25
              have c25b1 : (a0 != 3652059) = false := bne_eq_false_iff_eq.mpr c25
              clear c25
              by_cases c26 : t292 = 9999
              · rw [if_pos c26] at H
                have c26b0 : (t292 == 9999) = true := beq_iff_eq.mpr c26
                have c26b1 : (t292 != 9999) = false := bne_eq_false_iff_eq.mpr c26
                clear c26
                by_cases c27 : t293 = 12
                · rw [if_pos c27] at H
                  have c27b0 : (t293 == 12) = true := beq_iff_eq.mpr c27
                  have c27b1 : (t293 != 12) = false := bne_eq_false_iff_eq.mpr c27
                  clear c27
                  obtain rfl := Option.some.inj H
                  go_wp2
                  go_ret
                  exact ⟨by first | rfl | (simp [errW_none, errW_some] <;> rfl) | (simp [*, errW_none, errW_some] <;> rfl), by repeat (first | (with_reducible first | exact HB.out | apply below_alloc | apply pw_below_drewN | apply below_drew1) | exact HB.out)⟩
                · rw [if_neg c27] at H
                  have c27b0 : (t293 == 12) = false := beq_eq_false_iff_ne.mpr c27
                  have c27b1 : (t293 != 12) = true := bne_iff_ne.mpr c27
                  obtain rfl := Option.some.inj H
                  go_wp2
                  go_ret
                  exact ⟨by first | rfl | (simp [errW_none, errW_some] <;> rfl) | (simp [*, errW_none, errW_some] <;> rfl), by repeat (first | (with_reducible first | exact HB.out | apply below_alloc | apply pw_below_drewN | apply below_drew1) | exact HB.out)⟩
              · rw [if_neg c26] at H
                have c26b0 : (t292 == 9999) = false := beq_eq_false_iff_ne.mpr c26
                have c26b1 : (t292 != 9999) = true := bne_iff_ne.mpr c26
                obtain rfl := Option.some.inj H
                go_wp2
                go_ret
                exact ⟨by first | rfl | (simp [errW_none, errW_some] <;> rfl) | (simp [*, errW_none, errW_some] <;> rfl), by repeat (first | (with_reducible first | exact HB.out | apply below_alloc | apply pw_below_drewN | apply below_drew1) | exact HB.out)⟩
            · rw [if_neg c25] at H
              have c25b0 : (a0 == 3652059) = false := beq_eq_false_iff_ne.mpr c25
              have c25b1 : (a0 != 3652059) = true := bne_iff_ne.mpr c25
              replace H := Option.bind_eq_some_iff.mp H
              obtain ⟨⟨t310, t311, t312, t313⟩, A280, H⟩ := H
              replace H : ((calendar_Days.f t292 t293).bind fun bt314 => ((lexpriorlaw03_num.f t313).bind fun t316 => (if t316 = 0 then ((lexpriorlaw03_num.f bt314.2).bind fun t317 => (lexpriorlaw03_CalendarBack.j1 kj9 t292 t293 t294 t310 t311 t312 bt314.1 (t317 != 0))) else (lexpriorlaw03_CalendarBack.j1 kj9 t292 t293 t294 t310 t311 t312 bt314.1 true)))) = some r := H
              have A28 := Aside0.mk A280
              clear A280
              replace H := Option.bind_eq_some_iff.mp H
              obtain ⟨⟨t314, t315⟩, A290, H⟩ := H
              replace H : ((lexpriorlaw03_num.f t313).bind fun t316 => (if t316 = 0 then ((lexpriorlaw03_num.f t315).bind fun t317 => (lexpriorlaw03_CalendarBack.j1 kj9 t292 t293 t294 t310 t311 t312 t314 (t317 != 0))) else (lexpriorlaw03_CalendarBack.j1 kj9 t292 t293 t294 t310 t311 t312 t314 true))) = some r := H
              have A29 := Aside0.mk A290
              clear A290
              have HC30 := Aside0.mk H
              clear H
              go_upto_region 16 with (first | ((with_reducible refine gate_callee (f := 13) rfl ?_); refine goesL_ (some 109) rfl rfl Tryd.func13 (by kernel_rfl) rfl #[.int .i64 (wrap64 (a0 + 1))] rfl (by (try simp only [List.map_toArray, List.map_cons, List.map_nil]); first | done | rfl | (simp only [List.length_drop, List.length_take]; rfl)) ?_; (with_reducible refine (calendar_Parts.calls (wrap64 (a0 + 1)) t310 t311 t312 t313 _ A28.out).mono ?_); rintro e w31 ⟨rfl, hb⟩; refine ⟨_, rfl, ?_⟩; have n0_ := Aside0.mk (below_step (by repeat (first | (with_reducible first | exact HB.out | apply below_alloc | apply pw_below_drewN | apply below_drew1) | exact HB.out)) hb); clear HB; have HB := n0_; clear n0_; (try clear hb); (try clear hb2); (try clear hk); (try clear hi)) | ((with_reducible refine gate_callee (f := 16) rfl ?_); refine goesL_ (some 117) rfl rfl Tryd.func16 (by kernel_rfl) rfl #[.int .i64 t292, .int .i64 t293] rfl (by (try simp only [List.map_toArray, List.map_cons, List.map_nil]); first | done | rfl | (simp only [List.length_drop, List.length_take]; rfl)) ?_; (with_reducible refine (calendar_Days.calls t292 t293 t314 t315 _ A29.out).mono ?_); rintro e w32 ⟨rfl, hb⟩; refine ⟨_, rfl, ?_⟩; have n0_ := Aside0.mk (below_step (by repeat (first | (with_reducible first | exact HB.out | apply below_alloc | apply pw_below_drewN | apply below_drew1) | exact HB.out)) hb); clear HB; have HB := n0_; clear n0_; (try clear hb); (try clear hb2); (try clear hk); (try clear hi)))
              (try simp only [Act.put, List.setIfInBounds_toArray, List.set_cons_zero, List.set_cons_succ])
              go_cut [127] (fun v127 wc => ∃ (kq : Nat) (x127_29 : Bool), v127 = .bool x127_29 ∧ Aside0 (lexpriorlaw03_CalendarBack.j1 kq t292 t293 t294 t310 t311 t312 t314 x127_29 = some r) ∧ Aside0 (kq ≤ kj9) ∧ Aside0 (Below w.heap.size w wc))
              case first =>
                have H := HC30.out
                clear HC30
                replace H := Option.bind_eq_some_iff.mp H
                obtain ⟨t316, A330, H⟩ := H
                replace H : (if t316 = 0 then ((lexpriorlaw03_num.f t315).bind fun t317 => (lexpriorlaw03_CalendarBack.j1 kj9 t292 t293 t294 t310 t311 t312 t314 (t317 != 0))) else (lexpriorlaw03_CalendarBack.j1 kj9 t292 t293 t294 t310 t311 t312 t314 true)) = some r := H
                have A33 := Aside0.mk A330
                clear A330
                by_cases c34 : t316 = 0
                · rw [if_pos c34] at H
                  have c34b0 : (t316 == 0) = true := beq_iff_eq.mpr c34
                  have c34b1 : (t316 != 0) = false := bne_eq_false_iff_eq.mpr c34
                  clear c34
                  (first | rw [c34b0] | (simp only [i64_w, i32_w]; rw [c34b0]) | skip)
                  replace H := Option.bind_eq_some_iff.mp H
                  obtain ⟨t317, A350, H⟩ := H
                  replace H : (lexpriorlaw03_CalendarBack.j1 kj9 t292 t293 t294 t310 t311 t312 t314 (t317 != 0)) = some r := H
                  have A35 := Aside0.mk A350
                  clear A350
                  have H' := Aside0.mk H
                  clear H
                  go_wp2_with (first | ((with_reducible refine gate_callee (f := 12) rfl ?_); refine goesL_ (some 121) rfl rfl Tryd.func12 (by kernel_rfl) rfl #[.int .i64 t313] rfl (by (try simp only [List.map_toArray, List.map_cons, List.map_nil]); first | done | rfl | (simp only [List.length_drop, List.length_take]; rfl)) ?_; (with_reducible refine (lexpriorlaw03_num.calls t313 t316 _ A33.out).mono ?_); rintro e w' ⟨rfl, ⟨nd, rfl⟩⟩; refine ⟨_, rfl, ?_⟩) | (go_at_call 12; (with_reducible refine (lexpriorlaw03_num.calls t315 t317 _ A35.out).mono ?_); rintro e w' ⟨rfl, ⟨nd, rfl⟩⟩))
                  go_meet
                  case rel => exact ⟨_, ((t317 != 0)), (by first | rfl | (simp; done) | (simp [*]; done)), H', ⟨by have := HJ9.out; first | omega | exact Nat.le_refl _⟩, ⟨by repeat (first | (with_reducible first | exact HB.out | apply below_alloc | apply pw_below_drewN | apply below_drew1) | exact HB.out)⟩⟩
                · rw [if_neg c34] at H
                  have c34b0 : (t316 == 0) = false := beq_eq_false_iff_ne.mpr c34
                  have c34b1 : (t316 != 0) = true := bne_iff_ne.mpr c34
                  (first | rw [c34b0] | (simp only [i64_w, i32_w]; rw [c34b0]) | skip)
                  have H' := Aside0.mk H
                  clear H
                  go_wp2_with (first | ((with_reducible refine gate_callee (f := 12) rfl ?_); refine goesL_ (some 121) rfl rfl Tryd.func12 (by kernel_rfl) rfl #[.int .i64 t313] rfl (by (try simp only [List.map_toArray, List.map_cons, List.map_nil]); first | done | rfl | (simp only [List.length_drop, List.length_take]; rfl)) ?_; (with_reducible refine (lexpriorlaw03_num.calls t313 t316 _ A33.out).mono ?_); rintro e w' ⟨rfl, ⟨nd, rfl⟩⟩; refine ⟨_, rfl, ?_⟩))
                  go_meet
                  case rel => exact ⟨_, (true), (by first | rfl | (simp; done) | (simp [*]; done)), H', ⟨by have := HJ9.out; first | omega | exact Nat.le_refl _⟩, ⟨by repeat (first | (with_reducible first | exact HB.out | apply below_alloc | apply pw_below_drewN | apply below_drew1) | exact HB.out)⟩⟩
              case rest =>
                clear HC30
                try clear c1
                try clear c2
                try clear p2
                try clear c3
                try clear c6
                try clear c6b0
                try clear c6b1
                try clear p6
                try clear c9
                try clear c10
                try clear c12
                try clear c13
                try clear c14
                try clear c16
                try clear c17
                try clear c17b0
                try clear c17b1
                try clear c18
                try clear c18b0
                try clear c18b1
                try clear c20
                try clear c20b0
                try clear c20b1
                try clear c22
                try clear c22b0
                try clear c22b1
                try clear c23
                try clear c23b0
                try clear c23b1
                try clear c24
                try clear c25
                try clear c25b0
                try clear c25b1
                try clear c26
                try clear c26b0
                try clear c26b1
                try clear c27
                try clear c27b0
                try clear c27b1
                try clear c34
                try clear c34b0
                try clear c34b1
                try clear p2
                obtain ⟨kq, x127_29, rfl, HA, HJ29, HB⟩ := hcut
                cases kq with
                | zero => exact absurd HA.out (by simp [lexpriorlaw03_CalendarBack.j1])
                | succ kj29 =>
                  have H := HA.out
                  clear HA
                  simp only [lexpriorlaw03_CalendarBack.j1] at H
                  by_cases c36 : x127_29 = true
                  · subst c36
                    have H1 : (some false) = some r := by rw [if_pos rfl] at H; exact H
                    clear H
                    have H := H1
                    clear H1
                    obtain rfl := Option.some.inj H
                    go_wp2
                    go_ret
                    exact ⟨by first | rfl | (simp [errW_none, errW_some] <;> rfl) | (simp [*, errW_none, errW_some] <;> rfl), by repeat (first | (with_reducible first | exact HB.out | apply below_alloc | apply pw_below_drewN | apply below_drew1) | exact HB.out)⟩
                  · replace c36 := Bool.eq_false_iff.mpr c36
                    subst c36
                    have H1 : (if t294 < t314 then (if t310 = t292 then (if t311 = t293 then (some (t312 == (wrap64 (t294 + 1)))) else (some false)) else (some false)) else (if t293 < 12 then (if t310 = t292 then (if t311 = (wrap64 (t293 + 1)) then (some (t312 == 1)) else (some false)) else (some false)) else (if t310 = (wrap64 (t292 + 1)) then (if t311 = 1 then (some (t312 == 1)) else (some false)) else (some false)))) = some r := by rw [if_neg (show ¬ (false = true) by decide)] at H; exact H
                    clear H
                    have H := H1
                    clear H1
                    by_cases c37 : t294 < t314
                    · rw [if_pos c37] at H
                      have c37b0 : decide (t294 < t314) = true := decide_eq_true c37
                      clear c37
                      by_cases c38 : t310 = t292
                      · rw [if_pos c38] at H
                        have c38b0 : (t310 == t292) = true := beq_iff_eq.mpr c38
                        have c38b1 : (t310 != t292) = false := bne_eq_false_iff_eq.mpr c38
                        clear c38
                        by_cases c39 : t311 = t293
                        · rw [if_pos c39] at H
                          have c39b0 : (t311 == t293) = true := beq_iff_eq.mpr c39
                          have c39b1 : (t311 != t293) = false := bne_eq_false_iff_eq.mpr c39
                          clear c39
                          obtain rfl := Option.some.inj H
                          go_wp2
                          go_ret
                          exact ⟨by first | rfl | (simp [errW_none, errW_some] <;> rfl) | (simp [*, errW_none, errW_some] <;> rfl), by repeat (first | (with_reducible first | exact HB.out | apply below_alloc | apply pw_below_drewN | apply below_drew1) | exact HB.out)⟩
                        · rw [if_neg c39] at H
                          have c39b0 : (t311 == t293) = false := beq_eq_false_iff_ne.mpr c39
                          have c39b1 : (t311 != t293) = true := bne_iff_ne.mpr c39
                          obtain rfl := Option.some.inj H
                          go_wp2
                          go_ret
                          exact ⟨by first | rfl | (simp [errW_none, errW_some] <;> rfl) | (simp [*, errW_none, errW_some] <;> rfl), by repeat (first | (with_reducible first | exact HB.out | apply below_alloc | apply pw_below_drewN | apply below_drew1) | exact HB.out)⟩
                      · rw [if_neg c38] at H
                        have c38b0 : (t310 == t292) = false := beq_eq_false_iff_ne.mpr c38
                        have c38b1 : (t310 != t292) = true := bne_iff_ne.mpr c38
                        obtain rfl := Option.some.inj H
                        go_wp2
                        go_ret
                        exact ⟨by first | rfl | (simp [errW_none, errW_some] <;> rfl) | (simp [*, errW_none, errW_some] <;> rfl), by repeat (first | (with_reducible first | exact HB.out | apply below_alloc | apply pw_below_drewN | apply below_drew1) | exact HB.out)⟩
                    · rw [if_neg c37] at H
                      have c37b0 : decide (t294 < t314) = false := decide_eq_false c37
                      clear c37
                      by_cases c40 : t293 < 12
                      · rw [if_pos c40] at H
                        have c40b0 : decide (t293 < 12) = true := decide_eq_true c40
                        clear c40
                        by_cases c41 : t310 = t292
                        · rw [if_pos c41] at H
                          have c41b0 : (t310 == t292) = true := beq_iff_eq.mpr c41
                          have c41b1 : (t310 != t292) = false := bne_eq_false_iff_eq.mpr c41
                          clear c41
                          by_cases c42 : t311 = (wrap64 (t293 + 1))
                          · rw [if_pos c42] at H
                            have c42b0 : (t311 == (wrap64 (t293 + 1))) = true := beq_iff_eq.mpr c42
                            have c42b1 : (t311 != (wrap64 (t293 + 1))) = false := bne_eq_false_iff_eq.mpr c42
                            clear c42
                            obtain rfl := Option.some.inj H
                            go_wp2
                            go_ret
                            exact ⟨by first | rfl | (simp [errW_none, errW_some] <;> rfl) | (simp [*, errW_none, errW_some] <;> rfl), by repeat (first | (with_reducible first | exact HB.out | apply below_alloc | apply pw_below_drewN | apply below_drew1) | exact HB.out)⟩
                          · rw [if_neg c42] at H
                            have c42b0 : (t311 == (wrap64 (t293 + 1))) = false := beq_eq_false_iff_ne.mpr c42
                            have c42b1 : (t311 != (wrap64 (t293 + 1))) = true := bne_iff_ne.mpr c42
                            obtain rfl := Option.some.inj H
                            go_wp2
                            go_ret
                            exact ⟨by first | rfl | (simp [errW_none, errW_some] <;> rfl) | (simp [*, errW_none, errW_some] <;> rfl), by repeat (first | (with_reducible first | exact HB.out | apply below_alloc | apply pw_below_drewN | apply below_drew1) | exact HB.out)⟩
                        · rw [if_neg c41] at H
                          have c41b0 : (t310 == t292) = false := beq_eq_false_iff_ne.mpr c41
                          have c41b1 : (t310 != t292) = true := bne_iff_ne.mpr c41
                          obtain rfl := Option.some.inj H
                          go_wp2
                          go_ret
                          exact ⟨by first | rfl | (simp [errW_none, errW_some] <;> rfl) | (simp [*, errW_none, errW_some] <;> rfl), by repeat (first | (with_reducible first | exact HB.out | apply below_alloc | apply pw_below_drewN | apply below_drew1) | exact HB.out)⟩
                      · rw [if_neg c40] at H
                        have c40b0 : decide (t293 < 12) = false := decide_eq_false c40
                        clear c40
                        by_cases c43 : t310 = (wrap64 (t292 + 1))
                        · rw [if_pos c43] at H
                          have c43b0 : (t310 == (wrap64 (t292 + 1))) = true := beq_iff_eq.mpr c43
                          have c43b1 : (t310 != (wrap64 (t292 + 1))) = false := bne_eq_false_iff_eq.mpr c43
                          clear c43
                          by_cases c44 : t311 = 1
                          · rw [if_pos c44] at H
                            have c44b0 : (t311 == 1) = true := beq_iff_eq.mpr c44
                            have c44b1 : (t311 != 1) = false := bne_eq_false_iff_eq.mpr c44
                            clear c44
                            obtain rfl := Option.some.inj H
                            go_wp2
                            go_ret
                            exact ⟨by first | rfl | (simp [errW_none, errW_some] <;> rfl) | (simp [*, errW_none, errW_some] <;> rfl), by repeat (first | (with_reducible first | exact HB.out | apply below_alloc | apply pw_below_drewN | apply below_drew1) | exact HB.out)⟩
                          · rw [if_neg c44] at H
                            have c44b0 : (t311 == 1) = false := beq_eq_false_iff_ne.mpr c44
                            have c44b1 : (t311 != 1) = true := bne_iff_ne.mpr c44
                            obtain rfl := Option.some.inj H
                            go_wp2
                            go_ret
                            exact ⟨by first | rfl | (simp [errW_none, errW_some] <;> rfl) | (simp [*, errW_none, errW_some] <;> rfl), by repeat (first | (with_reducible first | exact HB.out | apply below_alloc | apply pw_below_drewN | apply below_drew1) | exact HB.out)⟩
                        · rw [if_neg c43] at H
                          have c43b0 : (t310 == (wrap64 (t292 + 1))) = false := beq_eq_false_iff_ne.mpr c43
                          have c43b1 : (t310 != (wrap64 (t292 + 1))) = true := bne_iff_ne.mpr c43
                          obtain rfl := Option.some.inj H
                          go_wp2
                          go_ret
                          exact ⟨by first | rfl | (simp [errW_none, errW_some] <;> rfl) | (simp [*, errW_none, errW_some] <;> rfl), by repeat (first | (with_reducible first | exact HB.out | apply below_alloc | apply pw_below_drewN | apply below_drew1) | exact HB.out)⟩
    · rw [if_neg c6] at H
      have c6b0 : (t296 == 0) = false := beq_eq_false_iff_ne.mpr c6
      have c6b1 : (t296 != 0) = true := bne_iff_ne.mpr c6
      replace H := Option.bind_eq_some_iff.mp H
      obtain ⟨⟨t297, t298⟩, A450, H⟩ := H
      replace H : (if a0 < 1 then ((lexpriorlaw03_num.f t298).bind fun t299 => (some (t299 == 31))) else (if a0 > 3652059 then ((lexpriorlaw03_num.f t298).bind fun t300 => (some (t300 == 31))) else (some false))) = some r := H
      have A45 := Aside0.mk A450
      clear A450
      by_cases c46 : a0 < 1
      · rw [if_pos c46] at H
        have c46b0 : decide (a0 < 1) = true := decide_eq_true c46
        clear c46
        replace H := Option.bind_eq_some_iff.mp H
        obtain ⟨t299, A470, H⟩ := H
        replace H : (some (t299 == 31)) = some r := H
        have A47 := Aside0.mk A470
        clear A470
        obtain rfl := Option.some.inj H
        go_enter Tryd.func9, Tryd.ntmps9
        go_wp2_with (first | ((with_reducible refine gate_callee (f := 10) rfl ?_); refine goesL_ (some 21) rfl rfl Tryd.func10 (by kernel_rfl) rfl #[] rfl (by (try simp only [List.map_toArray, List.map_cons, List.map_nil]); first | done | rfl | (simp only [List.length_drop, List.length_take]; rfl)) ?_; (with_reducible refine (lexpriorlaw03_alive.calls k  true _ A2.out (tabT_on HTAB (by repeat (first | (with_reducible first | exact HB.out | apply below_alloc | apply pw_below_drewN | apply below_drew1 | exact Below.refl _ _) | exact HB.out | exact Below.refl _ _)))).mono ?_); rintro e w48 ⟨rfl, hb⟩; refine ⟨_, rfl, ?_⟩; have n0_ := Aside0.mk (below_step (by repeat (first | (with_reducible first | exact HB.out | apply below_alloc | apply pw_below_drewN | apply below_drew1) | exact HB.out)) hb); clear HB; have HB := n0_; clear n0_; (try clear hb); (try clear hb2); (try clear hk); (try clear hi)) | ((with_reducible refine gate_callee (f := 13) rfl ?_); refine goesL_ (some 25) rfl rfl Tryd.func13 (by kernel_rfl) rfl #[.int .i64 a0] rfl (by (try simp only [List.map_toArray, List.map_cons, List.map_nil]); first | done | rfl | (simp only [List.length_drop, List.length_take]; rfl)) ?_; (with_reducible refine (calendar_Parts.calls a0 t292 t293 t294 t295 _ A4.out).mono ?_); rintro e w49 ⟨rfl, hb⟩; refine ⟨_, rfl, ?_⟩; have n0_ := Aside0.mk (below_step (by repeat (first | (with_reducible first | exact HB.out | apply below_alloc | apply pw_below_drewN | apply below_drew1) | exact HB.out)) hb); clear HB; have HB := n0_; clear n0_; (try clear hb); (try clear hb2); (try clear hk); (try clear hi)) | ((with_reducible refine gate_callee (f := 12) rfl ?_); refine goesL_ (some 31) rfl rfl Tryd.func12 (by kernel_rfl) rfl #[.int .i64 t295] rfl (by (try simp only [List.map_toArray, List.map_cons, List.map_nil]); first | done | rfl | (simp only [List.length_drop, List.length_take]; rfl)) ?_; (with_reducible refine (lexpriorlaw03_num.calls t295 t296 _ A5.out).mono ?_); rintro e w' ⟨rfl, ⟨nd, rfl⟩⟩; refine ⟨_, rfl, ?_⟩) | ((with_reducible refine gate_callee (f := 22) rfl ?_); refine goesL_ (some 35) rfl rfl Tryd.func22 (by kernel_rfl) rfl #[.int .i64 a0] rfl (by (try simp only [List.map_toArray, List.map_cons, List.map_nil]); first | done | rfl | (simp only [List.length_drop, List.length_take]; rfl)) ?_; (with_reducible refine (calendar_Print.calls k a0 t297 t298 _ A45.out (tabT_on HTAB (by repeat (first | (with_reducible first | exact HB.out | apply below_alloc | apply pw_below_drewN | apply below_drew1 | exact Below.refl _ _) | exact HB.out | exact Below.refl _ _)))).mono ?_); rintro e w50 ⟨rfl, hb⟩; refine ⟨_, rfl, ?_⟩; have n0_ := Aside0.mk (below_step (by repeat (first | (with_reducible first | exact HB.out | apply below_alloc | apply pw_below_drewN | apply below_drew1) | exact HB.out)) hb); clear HB; have HB := n0_; clear n0_; (try clear hb); (try clear hb2); (try clear hk); (try clear hi)) | (go_at_call 12; (with_reducible refine (lexpriorlaw03_num.calls t298 t299 _ A47.out).mono ?_); rintro e w' ⟨rfl, ⟨nd, rfl⟩⟩))
        go_ret
        exact ⟨by first | rfl | (simp [errW_none, errW_some] <;> rfl) | (simp [*, errW_none, errW_some] <;> rfl), by repeat (first | (with_reducible first | exact HB.out | apply below_alloc | apply pw_below_drewN | apply below_drew1) | exact HB.out)⟩
      · rw [if_neg c46] at H
        have c46b0 : decide (a0 < 1) = false := decide_eq_false c46
        clear c46
        by_cases c51 : a0 > 3652059
        · rw [if_pos c51] at H
          have c51b0 : decide (3652059 < a0) = true := decide_eq_true c51
          clear c51
          replace H := Option.bind_eq_some_iff.mp H
          obtain ⟨t300, A520, H⟩ := H
          replace H : (some (t300 == 31)) = some r := H
          have A52 := Aside0.mk A520
          clear A520
          obtain rfl := Option.some.inj H
          go_enter Tryd.func9, Tryd.ntmps9
          go_wp2_with (first | ((with_reducible refine gate_callee (f := 10) rfl ?_); refine goesL_ (some 21) rfl rfl Tryd.func10 (by kernel_rfl) rfl #[] rfl (by (try simp only [List.map_toArray, List.map_cons, List.map_nil]); first | done | rfl | (simp only [List.length_drop, List.length_take]; rfl)) ?_; (with_reducible refine (lexpriorlaw03_alive.calls k  true _ A2.out (tabT_on HTAB (by repeat (first | (with_reducible first | exact HB.out | apply below_alloc | apply pw_below_drewN | apply below_drew1 | exact Below.refl _ _) | exact HB.out | exact Below.refl _ _)))).mono ?_); rintro e w53 ⟨rfl, hb⟩; refine ⟨_, rfl, ?_⟩; have n0_ := Aside0.mk (below_step (by repeat (first | (with_reducible first | exact HB.out | apply below_alloc | apply pw_below_drewN | apply below_drew1) | exact HB.out)) hb); clear HB; have HB := n0_; clear n0_; (try clear hb); (try clear hb2); (try clear hk); (try clear hi)) | ((with_reducible refine gate_callee (f := 13) rfl ?_); refine goesL_ (some 25) rfl rfl Tryd.func13 (by kernel_rfl) rfl #[.int .i64 a0] rfl (by (try simp only [List.map_toArray, List.map_cons, List.map_nil]); first | done | rfl | (simp only [List.length_drop, List.length_take]; rfl)) ?_; (with_reducible refine (calendar_Parts.calls a0 t292 t293 t294 t295 _ A4.out).mono ?_); rintro e w54 ⟨rfl, hb⟩; refine ⟨_, rfl, ?_⟩; have n0_ := Aside0.mk (below_step (by repeat (first | (with_reducible first | exact HB.out | apply below_alloc | apply pw_below_drewN | apply below_drew1) | exact HB.out)) hb); clear HB; have HB := n0_; clear n0_; (try clear hb); (try clear hb2); (try clear hk); (try clear hi)) | ((with_reducible refine gate_callee (f := 12) rfl ?_); refine goesL_ (some 31) rfl rfl Tryd.func12 (by kernel_rfl) rfl #[.int .i64 t295] rfl (by (try simp only [List.map_toArray, List.map_cons, List.map_nil]); first | done | rfl | (simp only [List.length_drop, List.length_take]; rfl)) ?_; (with_reducible refine (lexpriorlaw03_num.calls t295 t296 _ A5.out).mono ?_); rintro e w' ⟨rfl, ⟨nd, rfl⟩⟩; refine ⟨_, rfl, ?_⟩) | ((with_reducible refine gate_callee (f := 22) rfl ?_); refine goesL_ (some 35) rfl rfl Tryd.func22 (by kernel_rfl) rfl #[.int .i64 a0] rfl (by (try simp only [List.map_toArray, List.map_cons, List.map_nil]); first | done | rfl | (simp only [List.length_drop, List.length_take]; rfl)) ?_; (with_reducible refine (calendar_Print.calls k a0 t297 t298 _ A45.out (tabT_on HTAB (by repeat (first | (with_reducible first | exact HB.out | apply below_alloc | apply pw_below_drewN | apply below_drew1 | exact Below.refl _ _) | exact HB.out | exact Below.refl _ _)))).mono ?_); rintro e w55 ⟨rfl, hb⟩; refine ⟨_, rfl, ?_⟩; have n0_ := Aside0.mk (below_step (by repeat (first | (with_reducible first | exact HB.out | apply below_alloc | apply pw_below_drewN | apply below_drew1) | exact HB.out)) hb); clear HB; have HB := n0_; clear n0_; (try clear hb); (try clear hb2); (try clear hk); (try clear hi)) | (go_at_call 12; (with_reducible refine (lexpriorlaw03_num.calls t298 t300 _ A52.out).mono ?_); rintro e w' ⟨rfl, ⟨nd, rfl⟩⟩))
          go_ret
          exact ⟨by first | rfl | (simp [errW_none, errW_some] <;> rfl) | (simp [*, errW_none, errW_some] <;> rfl), by repeat (first | (with_reducible first | exact HB.out | apply below_alloc | apply pw_below_drewN | apply below_drew1) | exact HB.out)⟩
        · rw [if_neg c51] at H
          have c51b0 : decide (3652059 < a0) = false := decide_eq_false c51
          clear c51
          obtain rfl := Option.some.inj H
          go_enter Tryd.func9, Tryd.ntmps9
          go_wp2_with (first | ((with_reducible refine gate_callee (f := 10) rfl ?_); refine goesL_ (some 21) rfl rfl Tryd.func10 (by kernel_rfl) rfl #[] rfl (by (try simp only [List.map_toArray, List.map_cons, List.map_nil]); first | done | rfl | (simp only [List.length_drop, List.length_take]; rfl)) ?_; (with_reducible refine (lexpriorlaw03_alive.calls k  true _ A2.out (tabT_on HTAB (by repeat (first | (with_reducible first | exact HB.out | apply below_alloc | apply pw_below_drewN | apply below_drew1 | exact Below.refl _ _) | exact HB.out | exact Below.refl _ _)))).mono ?_); rintro e w56 ⟨rfl, hb⟩; refine ⟨_, rfl, ?_⟩; have n0_ := Aside0.mk (below_step (by repeat (first | (with_reducible first | exact HB.out | apply below_alloc | apply pw_below_drewN | apply below_drew1) | exact HB.out)) hb); clear HB; have HB := n0_; clear n0_; (try clear hb); (try clear hb2); (try clear hk); (try clear hi)) | ((with_reducible refine gate_callee (f := 13) rfl ?_); refine goesL_ (some 25) rfl rfl Tryd.func13 (by kernel_rfl) rfl #[.int .i64 a0] rfl (by (try simp only [List.map_toArray, List.map_cons, List.map_nil]); first | done | rfl | (simp only [List.length_drop, List.length_take]; rfl)) ?_; (with_reducible refine (calendar_Parts.calls a0 t292 t293 t294 t295 _ A4.out).mono ?_); rintro e w57 ⟨rfl, hb⟩; refine ⟨_, rfl, ?_⟩; have n0_ := Aside0.mk (below_step (by repeat (first | (with_reducible first | exact HB.out | apply below_alloc | apply pw_below_drewN | apply below_drew1) | exact HB.out)) hb); clear HB; have HB := n0_; clear n0_; (try clear hb); (try clear hb2); (try clear hk); (try clear hi)) | ((with_reducible refine gate_callee (f := 12) rfl ?_); refine goesL_ (some 31) rfl rfl Tryd.func12 (by kernel_rfl) rfl #[.int .i64 t295] rfl (by (try simp only [List.map_toArray, List.map_cons, List.map_nil]); first | done | rfl | (simp only [List.length_drop, List.length_take]; rfl)) ?_; (with_reducible refine (lexpriorlaw03_num.calls t295 t296 _ A5.out).mono ?_); rintro e w' ⟨rfl, ⟨nd, rfl⟩⟩; refine ⟨_, rfl, ?_⟩) | ((with_reducible refine gate_callee (f := 22) rfl ?_); refine goesL_ (some 35) rfl rfl Tryd.func22 (by kernel_rfl) rfl #[.int .i64 a0] rfl (by (try simp only [List.map_toArray, List.map_cons, List.map_nil]); first | done | rfl | (simp only [List.length_drop, List.length_take]; rfl)) ?_; (with_reducible refine (calendar_Print.calls k a0 t297 t298 _ A45.out (tabT_on HTAB (by repeat (first | (with_reducible first | exact HB.out | apply below_alloc | apply pw_below_drewN | apply below_drew1 | exact Below.refl _ _) | exact HB.out | exact Below.refl _ _)))).mono ?_); rintro e w58 ⟨rfl, hb⟩; refine ⟨_, rfl, ?_⟩; have n0_ := Aside0.mk (below_step (by repeat (first | (with_reducible first | exact HB.out | apply below_alloc | apply pw_below_drewN | apply below_drew1) | exact HB.out)) hb); clear HB; have HB := n0_; clear n0_; (try clear hb); (try clear hb2); (try clear hk); (try clear hi)))
          go_ret
          exact ⟨by first | rfl | (simp [errW_none, errW_some] <;> rfl) | (simp [*, errW_none, errW_some] <;> rfl), by repeat (first | (with_reducible first | exact HB.out | apply below_alloc | apply pw_below_drewN | apply below_drew1) | exact HB.out)⟩
  · replace c3 := Bool.eq_false_iff.mpr c3
    subst c3
    have H1 : (some false) = some r := by rw [if_neg (show ¬ (false = true) by decide)] at H; exact H
    clear H
    have H := H1
    clear H1
    obtain rfl := Option.some.inj H
    go_enter Tryd.func9, Tryd.ntmps9
    go_wp2_with (first | ((with_reducible refine gate_callee (f := 10) rfl ?_); refine goesL_ (some 21) rfl rfl Tryd.func10 (by kernel_rfl) rfl #[] rfl (by (try simp only [List.map_toArray, List.map_cons, List.map_nil]); first | done | rfl | (simp only [List.length_drop, List.length_take]; rfl)) ?_; (with_reducible refine (lexpriorlaw03_alive.calls k  false _ A2.out (tabT_on HTAB (by repeat (first | (with_reducible first | exact HB.out | apply below_alloc | apply pw_below_drewN | apply below_drew1 | exact Below.refl _ _) | exact HB.out | exact Below.refl _ _)))).mono ?_); rintro e w59 ⟨rfl, hb⟩; refine ⟨_, rfl, ?_⟩; have n0_ := Aside0.mk (below_step (by repeat (first | (with_reducible first | exact HB.out | apply below_alloc | apply pw_below_drewN | apply below_drew1) | exact HB.out)) hb); clear HB; have HB := n0_; clear n0_; (try clear hb); (try clear hb2); (try clear hk); (try clear hi)))
    go_ret
    exact ⟨by first | rfl | (simp [errW_none, errW_some] <;> rfl) | (simp [*, errW_none, errW_some] <;> rfl), by repeat (first | (with_reducible first | exact HB.out | apply below_alloc | apply pw_below_drewN | apply below_drew1) | exact HB.out)⟩

/-- THE ONE PURE STATEMENT of lexpriorlaw03_CalendarBack: yours. -/
def lexpriorlaw03_CalendarBack.Pure : Prop := ∀ (a0 : Int), (Lit.int .i64 a0).wf = true → ∃ k, lexpriorlaw03_CalendarBack.f k a0 = some true
theorem lexpriorlaw03_CalendarBack.walk (P : lexpriorlaw03_CalendarBack.Pure) (a0 : Int) (w : World) (w0 : (Lit.int .i64 a0).wf = true) (HTAB : TabT w) :
    Calls Tryd.prog 9 #[.int .i64 a0] w fun e w' => e = .returned (.bool true) ∧ Below w.heap.size w w' := by
  obtain ⟨k, h⟩ := P a0 w0
  refine (lexpriorlaw03_CalendarBack.calls k a0 true w h (tabT_on HTAB (by repeat (first | (with_reducible first | exact HB.out | apply below_alloc | apply pw_below_drewN | apply below_drew1 | exact Below.refl _ _) | exact HB.out | exact Below.refl _ _)))).mono ?_
  rintro e w' ⟨rfl, hd⟩
  exact ⟨rfl, hd⟩

end Go.Proofs.YtimohodndbkchaaDoor.P
