-- Written by lexprint.py, a program of this session's own that runs the kit's print with turned rows. Lean checks it.
import Derived.Test.YtimohodndbkchaaDoorPx0
import Derived.Test.YtimohodndbkchaaDoorPx1
import Derived.Test.YtimohodndbkchaaDoorPx2
import Derived.Test.YtimohodndbkchaaDoorPx3
import Derived.Test.YtimohodndbkchaaDoorPx6
namespace Go.Proofs.YtimohodndbkchaaDoor.P
open Go.RowKit Go.Proofs.YtimohodndbkchaaDoorW.PrintWords Go.Proofs.YtimohodndbkchaaDoorW.PrintLast Go.Proofs.YtimohodndbkchaaDoorW.PrintMore
attribute [local go_sem] max2_int min2_int max_two min_two max_three min_three max_four min_four   -- for this text's walks alone
set_option linter.unusedVariables false
set_option linter.unusedSimpArgs false

/-! ### lexpriorlaw03_CalendarMonths: function 7 -/
mutual
def lexpriorlaw03_CalendarMonths.j0 : Nat → Int → Int → Int → Int → Bool → Option (Bool)
  | 0, _, _, _, _, _ => none
  | k + 1, x0, x1, x2, x9, x43 => if x43 = true then (some false) else (if x9 > 28 then (lexpriorlaw03_CalendarMonths.j1 k x0 x1 x2 true) else (if x1 < (-200000) then (lexpriorlaw03_CalendarMonths.j1 k x0 x1 x2 true) else (if x1 > 200000 then (lexpriorlaw03_CalendarMonths.j1 k x0 x1 x2 true) else (if x2 < (-200000) then (lexpriorlaw03_CalendarMonths.j1 k x0 x1 x2 true) else (lexpriorlaw03_CalendarMonths.j1 k x0 x1 x2 (decide (x2 > 200000)))))))
def lexpriorlaw03_CalendarMonths.j1 : Nat → Int → Int → Int → Bool → Option (Bool)
  | 0, _, _, _, _ => none
  | k + 1, x0, x1, x2, x61 => if x61 = true then (some true) else ((calendar_Months.f k x0 x1).bind fun bt249 => ((lexpriorlaw03_num.f bt249.2).bind fun t251 => (if t251 = 0 then ((calendar_Months.f k bt249.1 x2).bind fun bt252 => ((calendar_Months.f k x0 (wrap64 (x1 + x2))).bind fun bt254 => (if bt252.2 = bt254.2 then (some (bt252.1 == bt254.1)) else (some false)))) else (some true))))
end
def lexpriorlaw03_CalendarMonths.f (k : Nat) (a0 : Int) (a1 : Int) (a2 : Int) : Option (Bool) := (lexpriorlaw03_alive.f k).bind fun t240 => (if t240 = true then ((calendar_Parts.f a0).bind fun bt241 => ((lexpriorlaw03_num.f bt241.2.2.2).bind fun t245 => (if t245 = 0 then ((calendar_Months.f k a0 0).bind fun bt246 => ((lexpriorlaw03_num.f bt246.2).bind fun t248 => (if t248 = 0 then (lexpriorlaw03_CalendarMonths.j0 k a0 a1 a2 bt241.2.2.1 (bt246.1 != a0)) else (lexpriorlaw03_CalendarMonths.j0 k a0 a1 a2 bt241.2.2.1 true)))) else (some true)))) else (some false))
theorem lexpriorlaw03_CalendarMonths.mono_l : ∀ k, (∀ y0 y1 y2 y3 y4, LeO (lexpriorlaw03_CalendarMonths.j0 k y0 y1 y2 y3 y4) (lexpriorlaw03_CalendarMonths.j0 (k + 1) y0 y1 y2 y3 y4)) ∧ (∀ y0 y1 y2 y3, LeO (lexpriorlaw03_CalendarMonths.j1 k y0 y1 y2 y3) (lexpriorlaw03_CalendarMonths.j1 (k + 1) y0 y1 y2 y3))
  | 0 => ⟨fun _ _ _ _ _ r h => by simp [lexpriorlaw03_CalendarMonths.j0] at h, fun _ _ _ _ r h => by simp [lexpriorlaw03_CalendarMonths.j1] at h⟩
  | k + 1 => by
    obtain ⟨ih0, ih1⟩ := lexpriorlaw03_CalendarMonths.mono_l k
    refine ⟨?_, ?_⟩
    · intro y0 y1 y2 y3 y4
      unfold lexpriorlaw03_CalendarMonths.j0
      repeat' first
      | (with_reducible exact ih0 _ _ _ _ _)
      | (with_reducible exact ih1 _ _ _ _)
      | (with_reducible exact calendar_Months.mono _ _ _)
      | (with_reducible exact lexpriorlaw03_alive.mono _)
      | (with_reducible exact LeO.refl _)
      | (with_reducible exact LeO.none _)
      | (with_reducible refine LeO.ite ?_ ?_)
      | (with_reducible refine LeO.bind ?_ (fun _ => ?_))
      | exact ih0 _ _ _ _ _
      | exact ih1 _ _ _ _
      | exact calendar_Months.mono _ _ _
      | exact lexpriorlaw03_alive.mono _
      | exact LeO.none _
      | refine LeO.ite ?_ ?_
      | refine LeO.bind ?_ (fun _ => ?_)
    · intro y0 y1 y2 y3
      unfold lexpriorlaw03_CalendarMonths.j1
      repeat' first
      | (with_reducible exact ih0 _ _ _ _ _)
      | (with_reducible exact ih1 _ _ _ _)
      | (with_reducible exact calendar_Months.mono _ _ _)
      | (with_reducible exact lexpriorlaw03_alive.mono _)
      | (with_reducible exact LeO.refl _)
      | (with_reducible exact LeO.none _)
      | (with_reducible refine LeO.ite ?_ ?_)
      | (with_reducible refine LeO.bind ?_ (fun _ => ?_))
      | exact ih0 _ _ _ _ _
      | exact ih1 _ _ _ _
      | exact calendar_Months.mono _ _ _
      | exact lexpriorlaw03_alive.mono _
      | exact LeO.none _
      | refine LeO.ite ?_ ?_
      | refine LeO.bind ?_ (fun _ => ?_)
theorem lexpriorlaw03_CalendarMonths.mono : ∀ a0 a1 a2 k, LeO (lexpriorlaw03_CalendarMonths.f k a0 a1 a2) (lexpriorlaw03_CalendarMonths.f (k + 1) a0 a1 a2) := by
  intro a0 a1 a2 k
  obtain ⟨ih0, ih1⟩ := lexpriorlaw03_CalendarMonths.mono_l k
  unfold lexpriorlaw03_CalendarMonths.f
  repeat' first
      | (with_reducible exact ih0 _ _ _ _ _)
      | (with_reducible exact ih1 _ _ _ _)
      | (with_reducible exact calendar_Months.mono _ _ _)
      | (with_reducible exact lexpriorlaw03_alive.mono _)
      | (with_reducible exact LeO.refl _)
      | (with_reducible exact LeO.none _)
      | (with_reducible refine LeO.ite ?_ ?_)
      | (with_reducible refine LeO.bind ?_ (fun _ => ?_))
      | exact ih0 _ _ _ _ _
      | exact ih1 _ _ _ _
      | exact calendar_Months.mono _ _ _
      | exact lexpriorlaw03_alive.mono _
      | exact LeO.none _
      | refine LeO.ite ?_ ?_
      | refine LeO.bind ?_ (fun _ => ?_)
set_option maxHeartbeats 8000000 in
set_option maxRecDepth 100000 in
theorem lexpriorlaw03_CalendarMonths.calls (k : Nat) (a0 : Int) (a1 : Int) (a2 : Int) (r : Bool) (w : World) (h : lexpriorlaw03_CalendarMonths.f k a0 a1 a2 = some r) (HTAB : TabT w) :
    Calls Tryd.prog 7 #[.int .i64 a0, .int .i64 a1, .int .i64 a2] w fun e w' => e = .returned (.bool r) ∧ Below w.heap.size w w' := by
  have HB := Aside0.mk (Below.refl w.heap.size w)
  have H : ((lexpriorlaw03_alive.f k).bind fun t240 => (if t240 = true then ((calendar_Parts.f a0).bind fun bt241 => ((lexpriorlaw03_num.f bt241.2.2.2).bind fun t245 => (if t245 = 0 then ((calendar_Months.f k a0 0).bind fun bt246 => ((lexpriorlaw03_num.f bt246.2).bind fun t248 => (if t248 = 0 then (lexpriorlaw03_CalendarMonths.j0 k a0 a1 a2 bt241.2.2.1 (bt246.1 != a0)) else (lexpriorlaw03_CalendarMonths.j0 k a0 a1 a2 bt241.2.2.1 true)))) else (some true)))) else (some false))) = some r := h
  clear h
  replace H := Option.bind_eq_some_iff.mp H
  obtain ⟨t240, A40, H⟩ := H
  replace H : (if t240 = true then ((calendar_Parts.f a0).bind fun bt241 => ((lexpriorlaw03_num.f bt241.2.2.2).bind fun t245 => (if t245 = 0 then ((calendar_Months.f k a0 0).bind fun bt246 => ((lexpriorlaw03_num.f bt246.2).bind fun t248 => (if t248 = 0 then (lexpriorlaw03_CalendarMonths.j0 k a0 a1 a2 bt241.2.2.1 (bt246.1 != a0)) else (lexpriorlaw03_CalendarMonths.j0 k a0 a1 a2 bt241.2.2.1 true)))) else (some true)))) else (some false)) = some r := H
  have A4 := Aside0.mk A40
  clear A40
  by_cases c5 : t240 = true
  · subst c5
    have H1 : ((calendar_Parts.f a0).bind fun bt241 => ((lexpriorlaw03_num.f bt241.2.2.2).bind fun t245 => (if t245 = 0 then ((calendar_Months.f k a0 0).bind fun bt246 => ((lexpriorlaw03_num.f bt246.2).bind fun t248 => (if t248 = 0 then (lexpriorlaw03_CalendarMonths.j0 k a0 a1 a2 bt241.2.2.1 (bt246.1 != a0)) else (lexpriorlaw03_CalendarMonths.j0 k a0 a1 a2 bt241.2.2.1 true)))) else (some true)))) = some r := by rw [if_pos rfl] at H; exact H
    clear H
    have H := H1
    clear H1
    replace H := Option.bind_eq_some_iff.mp H
    obtain ⟨⟨t241, t242, t243, t244⟩, A60, H⟩ := H
    replace H : ((lexpriorlaw03_num.f t244).bind fun t245 => (if t245 = 0 then ((calendar_Months.f k a0 0).bind fun bt246 => ((lexpriorlaw03_num.f bt246.2).bind fun t248 => (if t248 = 0 then (lexpriorlaw03_CalendarMonths.j0 k a0 a1 a2 t243 (bt246.1 != a0)) else (lexpriorlaw03_CalendarMonths.j0 k a0 a1 a2 t243 true)))) else (some true))) = some r := H
    have A6 := Aside0.mk A60
    clear A60
    replace H := Option.bind_eq_some_iff.mp H
    obtain ⟨t245, A70, H⟩ := H
    replace H : (if t245 = 0 then ((calendar_Months.f k a0 0).bind fun bt246 => ((lexpriorlaw03_num.f bt246.2).bind fun t248 => (if t248 = 0 then (lexpriorlaw03_CalendarMonths.j0 k a0 a1 a2 t243 (bt246.1 != a0)) else (lexpriorlaw03_CalendarMonths.j0 k a0 a1 a2 t243 true)))) else (some true)) = some r := H
    have A7 := Aside0.mk A70
    clear A70
    by_cases c8 : t245 = 0
    · rw [if_pos c8] at H
      have c8b0 : (t245 == 0) = true := beq_iff_eq.mpr c8
      have c8b1 : (t245 != 0) = false := bne_eq_false_iff_eq.mpr c8
      clear c8
      replace H := Option.bind_eq_some_iff.mp H
      obtain ⟨⟨t246, t247⟩, A90, H⟩ := H
      replace H : ((lexpriorlaw03_num.f t247).bind fun t248 => (if t248 = 0 then (lexpriorlaw03_CalendarMonths.j0 k a0 a1 a2 t243 (t246 != a0)) else (lexpriorlaw03_CalendarMonths.j0 k a0 a1 a2 t243 true))) = some r := H
      have A9 := Aside0.mk A90
      clear A90
      have HC10 := Aside0.mk H
      clear H
      go_enter Tryd.func7, Tryd.ntmps7
      go_upto_region 7 with (first | ((with_reducible refine gate_callee (f := 10) rfl ?_); refine goesL_ (some 19) rfl rfl Tryd.func10 (by kernel_rfl) rfl #[] rfl (by (try simp only [List.map_toArray, List.map_cons, List.map_nil]); first | done | rfl | (simp only [List.length_drop, List.length_take]; rfl)) ?_; (with_reducible refine (lexpriorlaw03_alive.calls k  true _ A4.out (tabT_on HTAB (by repeat (first | (with_reducible first | exact HB.out | apply below_alloc | apply pw_below_drewN | apply below_drew1 | exact Below.refl _ _) | exact HB.out | exact Below.refl _ _)))).mono ?_); rintro e w11 ⟨rfl, hb⟩; refine ⟨_, rfl, ?_⟩; have n0_ := Aside0.mk (below_step (by repeat (first | (with_reducible first | exact HB.out | apply below_alloc | apply pw_below_drewN | apply below_drew1) | exact HB.out)) hb); clear HB; have HB := n0_; clear n0_; (try clear hb); (try clear hb2); (try clear hk); (try clear hi)) | ((with_reducible refine gate_callee (f := 13) rfl ?_); refine goesL_ (some 23) rfl rfl Tryd.func13 (by kernel_rfl) rfl #[.int .i64 a0] rfl (by (try simp only [List.map_toArray, List.map_cons, List.map_nil]); first | done | rfl | (simp only [List.length_drop, List.length_take]; rfl)) ?_; (with_reducible refine (calendar_Parts.calls a0 t241 t242 t243 t244 _ A6.out).mono ?_); rintro e w12 ⟨rfl, hb⟩; refine ⟨_, rfl, ?_⟩; have n0_ := Aside0.mk (below_step (by repeat (first | (with_reducible first | exact HB.out | apply below_alloc | apply pw_below_drewN | apply below_drew1) | exact HB.out)) hb); clear HB; have HB := n0_; clear n0_; (try clear hb); (try clear hb2); (try clear hk); (try clear hi)) | ((with_reducible refine gate_callee (f := 12) rfl ?_); refine goesL_ (some 29) rfl rfl Tryd.func12 (by kernel_rfl) rfl #[.int .i64 t244] rfl (by (try simp only [List.map_toArray, List.map_cons, List.map_nil]); first | done | rfl | (simp only [List.length_drop, List.length_take]; rfl)) ?_; (with_reducible refine (lexpriorlaw03_num.calls t244 t245 _ A7.out).mono ?_); rintro e w' ⟨rfl, ⟨nd, rfl⟩⟩; refine ⟨_, rfl, ?_⟩) | ((with_reducible refine gate_callee (f := 24) rfl ?_); refine goesL_ (some 33) rfl rfl Tryd.func24 (by kernel_rfl) rfl #[.int .i64 a0, .int .i64 0] rfl (by (try simp only [List.map_toArray, List.map_cons, List.map_nil]); first | done | rfl | (simp only [List.length_drop, List.length_take]; rfl)) ?_; (with_reducible refine (calendar_Months.calls k a0 0 t246 t247 _ A9.out).mono ?_); rintro e w13 ⟨rfl, hb⟩; refine ⟨_, rfl, ?_⟩; have n0_ := Aside0.mk (below_step (by repeat (first | (with_reducible first | exact HB.out | apply below_alloc | apply pw_below_drewN | apply below_drew1) | exact HB.out)) hb); clear HB; have HB := n0_; clear n0_; (try clear hb); (try clear hb2); (try clear hk); (try clear hi)))
      (try simp only [Act.put, List.setIfInBounds_toArray, List.set_cons_zero, List.set_cons_succ])
      go_cut [43] (fun v43 wc => ∃ (kq : Nat) (x43_9 : Bool), v43 = .bool x43_9 ∧ Aside0 (lexpriorlaw03_CalendarMonths.j0 kq a0 a1 a2 t243 x43_9 = some r) ∧ Aside0 (kq ≤ k) ∧ Aside0 (Below w.heap.size w wc))
      case first =>
        have H := HC10.out
        clear HC10
        replace H := Option.bind_eq_some_iff.mp H
        obtain ⟨t248, A140, H⟩ := H
        replace H : (if t248 = 0 then (lexpriorlaw03_CalendarMonths.j0 k a0 a1 a2 t243 (t246 != a0)) else (lexpriorlaw03_CalendarMonths.j0 k a0 a1 a2 t243 true)) = some r := H
        have A14 := Aside0.mk A140
        clear A140
        by_cases c15 : t248 = 0
        · rw [if_pos c15] at H
          have c15b0 : (t248 == 0) = true := beq_iff_eq.mpr c15
          have c15b1 : (t248 != 0) = false := bne_eq_false_iff_eq.mpr c15
          clear c15
          (first | rw [c15b0] | (simp only [i64_w, i32_w]; rw [c15b0]) | skip)
          have H' := Aside0.mk H
          clear H
          go_wp2_with (first | ((with_reducible refine gate_callee (f := 12) rfl ?_); refine goesL_ (some 37) rfl rfl Tryd.func12 (by kernel_rfl) rfl #[.int .i64 t247] rfl (by (try simp only [List.map_toArray, List.map_cons, List.map_nil]); first | done | rfl | (simp only [List.length_drop, List.length_take]; rfl)) ?_; (with_reducible refine (lexpriorlaw03_num.calls t247 t248 _ A14.out).mono ?_); rintro e w' ⟨rfl, ⟨nd, rfl⟩⟩; refine ⟨_, rfl, ?_⟩))
          go_meet
          case rel => exact ⟨_, ((t246 != a0)), (by first | rfl | (simp; done) | (simp [*]; done)), H', ⟨by first | omega | exact Nat.le_refl _⟩, ⟨by repeat (first | (with_reducible first | exact HB.out | apply below_alloc | apply pw_below_drewN | apply below_drew1) | exact HB.out)⟩⟩
        · rw [if_neg c15] at H
          have c15b0 : (t248 == 0) = false := beq_eq_false_iff_ne.mpr c15
          have c15b1 : (t248 != 0) = true := bne_iff_ne.mpr c15
          (first | rw [c15b0] | (simp only [i64_w, i32_w]; rw [c15b0]) | skip)
          have H' := Aside0.mk H
          clear H
          go_wp2_with (first | ((with_reducible refine gate_callee (f := 12) rfl ?_); refine goesL_ (some 37) rfl rfl Tryd.func12 (by kernel_rfl) rfl #[.int .i64 t247] rfl (by (try simp only [List.map_toArray, List.map_cons, List.map_nil]); first | done | rfl | (simp only [List.length_drop, List.length_take]; rfl)) ?_; (with_reducible refine (lexpriorlaw03_num.calls t247 t248 _ A14.out).mono ?_); rintro e w' ⟨rfl, ⟨nd, rfl⟩⟩; refine ⟨_, rfl, ?_⟩))
          go_meet
          case rel => exact ⟨_, (true), (by first | rfl | (simp; done) | (simp [*]; done)), H', ⟨by first | omega | exact Nat.le_refl _⟩, ⟨by repeat (first | (with_reducible first | exact HB.out | apply below_alloc | apply pw_below_drewN | apply below_drew1) | exact HB.out)⟩⟩
      case rest =>
        clear HC10
        try clear c1
        try clear c2
        try clear p2
        try clear c5
        try clear c7
        try clear c8
        try clear c8b0
        try clear c8b1
        try clear c10
        try clear c12
        try clear c13
        try clear c15
        try clear c15b0
        try clear c15b1
        obtain ⟨kq, x43_9, rfl, HA, HJ9, HB⟩ := hcut
        cases kq with
        | zero => exact absurd HA.out (by simp [lexpriorlaw03_CalendarMonths.j0])
        | succ kj9 =>
          have H := HA.out
          clear HA
          simp only [lexpriorlaw03_CalendarMonths.j0] at H
          by_cases c16 : x43_9 = true
          · subst c16
            have H1 : (some false) = some r := by rw [if_pos rfl] at H; exact H
            clear H
            have H := H1
            clear H1
            obtain rfl := Option.some.inj H
            go_wp2
            go_ret
            exact ⟨by first | rfl | (simp [errW_none, errW_some] <;> rfl) | (simp [*, errW_none, errW_some] <;> rfl), by repeat (first | (with_reducible first | exact HB.out | apply below_alloc | apply pw_below_drewN | apply below_drew1) | exact HB.out)⟩
          · replace c16 := Bool.eq_false_iff.mpr c16
            subst c16
            have H1 : (if t243 > 28 then (lexpriorlaw03_CalendarMonths.j1 kj9 a0 a1 a2 true) else (if a1 < (-200000) then (lexpriorlaw03_CalendarMonths.j1 kj9 a0 a1 a2 true) else (if a1 > 200000 then (lexpriorlaw03_CalendarMonths.j1 kj9 a0 a1 a2 true) else (if a2 < (-200000) then (lexpriorlaw03_CalendarMonths.j1 kj9 a0 a1 a2 true) else (lexpriorlaw03_CalendarMonths.j1 kj9 a0 a1 a2 (decide (a2 > 200000))))))) = some r := by rw [if_neg (show ¬ (false = true) by decide)] at H; exact H
            clear H
            have H := H1
            clear H1
            have HC17 := Aside0.mk H
            clear H
            go_upto_region 9 with (fail)
            go_cut [61] (fun v61 wc => ∃ (kq : Nat) (x61_16 : Bool), v61 = .bool x61_16 ∧ Aside0 (lexpriorlaw03_CalendarMonths.j1 kq a0 a1 a2 x61_16 = some r) ∧ Aside0 (kq ≤ kj9) ∧ Aside0 (Below w.heap.size w wc))
            case first =>
              have H := HC17.out
              clear HC17
              by_cases c18 : t243 > 28
              · rw [if_pos c18] at H
                have c18b0 : decide (28 < t243) = true := decide_eq_true c18
                clear c18
                (first | rw [c18b0] | (simp only [i64_w, i32_w]; rw [c18b0]) | skip)
                have H' := Aside0.mk H
                clear H
                go_wp2
                go_meet
                case rel => exact ⟨_, (true), (by first | rfl | (simp; done) | (simp [*]; done)), H', ⟨by have := HJ9.out; first | omega | exact Nat.le_refl _⟩, ⟨by repeat (first | (with_reducible first | exact HB.out | apply below_alloc | apply pw_below_drewN | apply below_drew1) | exact HB.out)⟩⟩
              · rw [if_neg c18] at H
                have c18b0 : decide (28 < t243) = false := decide_eq_false c18
                clear c18
                (first | rw [c18b0] | (simp only [i64_w, i32_w]; rw [c18b0]) | skip)
                by_cases c19 : a1 < (-200000)
                · rw [if_pos c19] at H
                  have c19b0 : decide (a1 < (-200000)) = true := decide_eq_true c19
                  clear c19
                  have H' := Aside0.mk H
                  clear H
                  go_wp2
                  go_meet
                  case rel => exact ⟨_, (true), (by first | rfl | (simp; done) | (simp [*]; done)), H', ⟨by have := HJ9.out; first | omega | exact Nat.le_refl _⟩, ⟨by repeat (first | (with_reducible first | exact HB.out | apply below_alloc | apply pw_below_drewN | apply below_drew1) | exact HB.out)⟩⟩
                · rw [if_neg c19] at H
                  have c19b0 : decide (a1 < (-200000)) = false := decide_eq_false c19
                  clear c19
                  by_cases c20 : a1 > 200000
                  · rw [if_pos c20] at H
                    have c20b0 : decide (200000 < a1) = true := decide_eq_true c20
                    clear c20
                    have H' := Aside0.mk H
                    clear H
                    go_wp2
                    go_meet
                    case rel => exact ⟨_, (true), (by first | rfl | (simp; done) | (simp [*]; done)), H', ⟨by have := HJ9.out; first | omega | exact Nat.le_refl _⟩, ⟨by repeat (first | (with_reducible first | exact HB.out | apply below_alloc | apply pw_below_drewN | apply below_drew1) | exact HB.out)⟩⟩
                  · rw [if_neg c20] at H
                    have c20b0 : decide (200000 < a1) = false := decide_eq_false c20
                    clear c20
                    by_cases c21 : a2 < (-200000)
                    · rw [if_pos c21] at H
                      have c21b0 : decide (a2 < (-200000)) = true := decide_eq_true c21
                      clear c21
                      have H' := Aside0.mk H
                      clear H
                      go_wp2
                      go_meet
                      case rel => exact ⟨_, (true), (by first | rfl | (simp; done) | (simp [*]; done)), H', ⟨by have := HJ9.out; first | omega | exact Nat.le_refl _⟩, ⟨by repeat (first | (with_reducible first | exact HB.out | apply below_alloc | apply pw_below_drewN | apply below_drew1) | exact HB.out)⟩⟩
                    · rw [if_neg c21] at H
                      have c21b0 : decide (a2 < (-200000)) = false := decide_eq_false c21
                      clear c21
                      have H' := Aside0.mk H
                      clear H
                      go_wp2
                      go_meet
                      case rel => exact ⟨_, (decide (a2 > 200000)), (by first | rfl | (simp; done) | (simp [*]; done)), H', ⟨by have := HJ9.out; first | omega | exact Nat.le_refl _⟩, ⟨by repeat (first | (with_reducible first | exact HB.out | apply below_alloc | apply pw_below_drewN | apply below_drew1) | exact HB.out)⟩⟩
            case rest =>
              clear HC17
              try clear c1
              try clear c2
              try clear p2
              try clear c5
              try clear c7
              try clear c8
              try clear c8b0
              try clear c8b1
              try clear c10
              try clear c12
              try clear c13
              try clear c15
              try clear c15b0
              try clear c15b1
              try clear c16
              try clear c18
              try clear c18b0
              try clear c19
              try clear c19b0
              try clear c20
              try clear c20b0
              try clear c21
              try clear c21b0
              try clear p2
              obtain ⟨kq, x61_16, rfl, HA, HJ16, HB⟩ := hcut
              cases kq with
              | zero => exact absurd HA.out (by simp [lexpriorlaw03_CalendarMonths.j1])
              | succ kj16 =>
                have H := HA.out
                clear HA
                simp only [lexpriorlaw03_CalendarMonths.j1] at H
                by_cases c22 : x61_16 = true
                · subst c22
                  have H1 : (some true) = some r := by rw [if_pos rfl] at H; exact H
                  clear H
                  have H := H1
                  clear H1
                  obtain rfl := Option.some.inj H
                  go_wp2
                  go_ret
                  exact ⟨by first | rfl | (simp [errW_none, errW_some] <;> rfl) | (simp [*, errW_none, errW_some] <;> rfl), by repeat (first | (with_reducible first | exact HB.out | apply below_alloc | apply pw_below_drewN | apply below_drew1) | exact HB.out)⟩
                · replace c22 := Bool.eq_false_iff.mpr c22
                  subst c22
                  have H1 : ((calendar_Months.f kj16 a0 a1).bind fun bt249 => ((lexpriorlaw03_num.f bt249.2).bind fun t251 => (if t251 = 0 then ((calendar_Months.f kj16 bt249.1 a2).bind fun bt252 => ((calendar_Months.f kj16 a0 (wrap64 (a1 + a2))).bind fun bt254 => (if bt252.2 = bt254.2 then (some (bt252.1 == bt254.1)) else (some false)))) else (some true)))) = some r := by rw [if_neg (show ¬ (false = true) by decide)] at H; exact H
                  clear H
                  have H := H1
                  clear H1
                  replace H := Option.bind_eq_some_iff.mp H
                  obtain ⟨⟨t249, t250⟩, A230, H⟩ := H
                  replace H : ((lexpriorlaw03_num.f t250).bind fun t251 => (if t251 = 0 then ((calendar_Months.f kj16 t249 a2).bind fun bt252 => ((calendar_Months.f kj16 a0 (wrap64 (a1 + a2))).bind fun bt254 => (if bt252.2 = bt254.2 then (some (bt252.1 == bt254.1)) else (some false)))) else (some true))) = some r := H
                  have A23 := Aside0.mk A230
                  clear A230
                  replace H := Option.bind_eq_some_iff.mp H
                  obtain ⟨t251, A240, H⟩ := H
                  replace H : (if t251 = 0 then ((calendar_Months.f kj16 t249 a2).bind fun bt252 => ((calendar_Months.f kj16 a0 (wrap64 (a1 + a2))).bind fun bt254 => (if bt252.2 = bt254.2 then (some (bt252.1 == bt254.1)) else (some false)))) else (some true)) = some r := H
                  have A24 := Aside0.mk A240
                  clear A240
                  by_cases c25 : t251 = 0
                  · rw [if_pos c25] at H
                    have c25b0 : (t251 == 0) = true := beq_iff_eq.mpr c25
                    have c25b1 : (t251 != 0) = false := bne_eq_false_iff_eq.mpr c25
                    clear c25
                    replace H := Option.bind_eq_some_iff.mp H
                    obtain ⟨⟨t252, t253⟩, A260, H⟩ := H
                    replace H : ((calendar_Months.f kj16 a0 (wrap64 (a1 + a2))).bind fun bt254 => (if t253 = bt254.2 then (some (t252 == bt254.1)) else (some false))) = some r := H
                    have A26 := Aside0.mk A260
                    clear A260
                    replace H := Option.bind_eq_some_iff.mp H
                    obtain ⟨⟨t254, t255⟩, A270, H⟩ := H
                    replace H : (if t253 = t255 then (some (t252 == t254)) else (some false)) = some r := H
                    have A27 := Aside0.mk A270
                    clear A270
                    by_cases c28 : t253 = t255
                    · rw [if_pos c28] at H
                      have c28b0 : (t253 == t255) = true := beq_iff_eq.mpr c28
                      have c28b1 : (t253 != t255) = false := bne_eq_false_iff_eq.mpr c28
                      clear c28
                      obtain rfl := Option.some.inj H
                      go_wp2_with (first | ((with_reducible refine gate_callee (f := 24) rfl ?_); refine goesL_ (some 65) rfl rfl Tryd.func24 (by kernel_rfl) rfl #[.int .i64 a0, .int .i64 a1] rfl (by (try simp only [List.map_toArray, List.map_cons, List.map_nil]); first | done | rfl | (simp only [List.length_drop, List.length_take]; rfl)) ?_; (with_reducible refine (calendar_Months.calls kj16 a0 a1 t249 t250 _ A23.out).mono ?_); rintro e w29 ⟨rfl, hb⟩; refine ⟨_, rfl, ?_⟩; have n0_ := Aside0.mk (below_step (by repeat (first | (with_reducible first | exact HB.out | apply below_alloc | apply pw_below_drewN | apply below_drew1) | exact HB.out)) hb); clear HB; have HB := n0_; clear n0_; (try clear hb); (try clear hb2); (try clear hk); (try clear hi)) | ((with_reducible refine gate_callee (f := 12) rfl ?_); refine goesL_ (some 69) rfl rfl Tryd.func12 (by kernel_rfl) rfl #[.int .i64 t250] rfl (by (try simp only [List.map_toArray, List.map_cons, List.map_nil]); first | done | rfl | (simp only [List.length_drop, List.length_take]; rfl)) ?_; (with_reducible refine (lexpriorlaw03_num.calls t250 t251 _ A24.out).mono ?_); rintro e w' ⟨rfl, ⟨nd, rfl⟩⟩; refine ⟨_, rfl, ?_⟩) | ((with_reducible refine gate_callee (f := 24) rfl ?_); refine goesL_ (some 74) rfl rfl Tryd.func24 (by kernel_rfl) rfl #[.int .i64 t249, .int .i64 a2] rfl (by (try simp only [List.map_toArray, List.map_cons, List.map_nil]); first | done | rfl | (simp only [List.length_drop, List.length_take]; rfl)) ?_; (with_reducible refine (calendar_Months.calls kj16 t249 a2 t252 t253 _ A26.out).mono ?_); rintro e w30 ⟨rfl, hb⟩; refine ⟨_, rfl, ?_⟩; have n0_ := Aside0.mk (below_step (by repeat (first | (with_reducible first | exact HB.out | apply below_alloc | apply pw_below_drewN | apply below_drew1) | exact HB.out)) hb); clear HB; have HB := n0_; clear n0_; (try clear hb); (try clear hb2); (try clear hk); (try clear hi)) | ((with_reducible refine gate_callee (f := 24) rfl ?_); refine goesL_ (some 82) rfl rfl Tryd.func24 (by kernel_rfl) rfl #[.int .i64 a0, .int .i64 (wrap64 (a1 + a2))] rfl (by (try simp only [List.map_toArray, List.map_cons, List.map_nil]); first | done | rfl | (simp only [List.length_drop, List.length_take]; rfl)) ?_; (with_reducible refine (calendar_Months.calls kj16 a0 (wrap64 (a1 + a2)) t254 t255 _ A27.out).mono ?_); rintro e w31 ⟨rfl, hb⟩; refine ⟨_, rfl, ?_⟩; have n0_ := Aside0.mk (below_step (by repeat (first | (with_reducible first | exact HB.out | apply below_alloc | apply pw_below_drewN | apply below_drew1) | exact HB.out)) hb); clear HB; have HB := n0_; clear n0_; (try clear hb); (try clear hb2); (try clear hk); (try clear hi)))
                      go_ret
                      exact ⟨by first | rfl | (simp [errW_none, errW_some] <;> rfl) | (simp [*, errW_none, errW_some] <;> rfl), by repeat (first | (with_reducible first | exact HB.out | apply below_alloc | apply pw_below_drewN | apply below_drew1) | exact HB.out)⟩
                    · rw [if_neg c28] at H
                      have c28b0 : (t253 == t255) = false := beq_eq_false_iff_ne.mpr c28
                      have c28b1 : (t253 != t255) = true := bne_iff_ne.mpr c28
                      obtain rfl := Option.some.inj H
                      go_wp2_with (first | ((with_reducible refine gate_callee (f := 24) rfl ?_); refine goesL_ (some 65) rfl rfl Tryd.func24 (by kernel_rfl) rfl #[.int .i64 a0, .int .i64 a1] rfl (by (try simp only [List.map_toArray, List.map_cons, List.map_nil]); first | done | rfl | (simp only [List.length_drop, List.length_take]; rfl)) ?_; (with_reducible refine (calendar_Months.calls kj16 a0 a1 t249 t250 _ A23.out).mono ?_); rintro e w32 ⟨rfl, hb⟩; refine ⟨_, rfl, ?_⟩; have n0_ := Aside0.mk (below_step (by repeat (first | (with_reducible first | exact HB.out | apply below_alloc | apply pw_below_drewN | apply below_drew1) | exact HB.out)) hb); clear HB; have HB := n0_; clear n0_; (try clear hb); (try clear hb2); (try clear hk); (try clear hi)) | ((with_reducible refine gate_callee (f := 12) rfl ?_); refine goesL_ (some 69) rfl rfl Tryd.func12 (by kernel_rfl) rfl #[.int .i64 t250] rfl (by (try simp only [List.map_toArray, List.map_cons, List.map_nil]); first | done | rfl | (simp only [List.length_drop, List.length_take]; rfl)) ?_; (with_reducible refine (lexpriorlaw03_num.calls t250 t251 _ A24.out).mono ?_); rintro e w' ⟨rfl, ⟨nd, rfl⟩⟩; refine ⟨_, rfl, ?_⟩) | ((with_reducible refine gate_callee (f := 24) rfl ?_); refine goesL_ (some 74) rfl rfl Tryd.func24 (by kernel_rfl) rfl #[.int .i64 t249, .int .i64 a2] rfl (by (try simp only [List.map_toArray, List.map_cons, List.map_nil]); first | done | rfl | (simp only [List.length_drop, List.length_take]; rfl)) ?_; (with_reducible refine (calendar_Months.calls kj16 t249 a2 t252 t253 _ A26.out).mono ?_); rintro e w33 ⟨rfl, hb⟩; refine ⟨_, rfl, ?_⟩; have n0_ := Aside0.mk (below_step (by repeat (first | (with_reducible first | exact HB.out | apply below_alloc | apply pw_below_drewN | apply below_drew1) | exact HB.out)) hb); clear HB; have HB := n0_; clear n0_; (try clear hb); (try clear hb2); (try clear hk); (try clear hi)) | ((with_reducible refine gate_callee (f := 24) rfl ?_); refine goesL_ (some 82) rfl rfl Tryd.func24 (by kernel_rfl) rfl #[.int .i64 a0, .int .i64 (wrap64 (a1 + a2))] rfl (by (try simp only [List.map_toArray, List.map_cons, List.map_nil]); first | done | rfl | (simp only [List.length_drop, List.length_take]; rfl)) ?_; (with_reducible refine (calendar_Months.calls kj16 a0 (wrap64 (a1 + a2)) t254 t255 _ A27.out).mono ?_); rintro e w34 ⟨rfl, hb⟩; refine ⟨_, rfl, ?_⟩; have n0_ := Aside0.mk (below_step (by repeat (first | (with_reducible first | exact HB.out | apply below_alloc | apply pw_below_drewN | apply below_drew1) | exact HB.out)) hb); clear HB; have HB := n0_; clear n0_; (try clear hb); (try clear hb2); (try clear hk); (try clear hi)))
                      go_ret
                      exact ⟨by first | rfl | (simp [errW_none, errW_some] <;> rfl) | (simp [*, errW_none, errW_some] <;> rfl), by repeat (first | (with_reducible first | exact HB.out | apply below_alloc | apply pw_below_drewN | apply below_drew1) | exact HB.out)⟩
                  · rw [if_neg c25] at H
                    have c25b0 : (t251 == 0) = false := beq_eq_false_iff_ne.mpr c25
                    have c25b1 : (t251 != 0) = true := bne_iff_ne.mpr c25
                    obtain rfl := Option.some.inj H
                    go_wp2_with (first | ((with_reducible refine gate_callee (f := 24) rfl ?_); refine goesL_ (some 65) rfl rfl Tryd.func24 (by kernel_rfl) rfl #[.int .i64 a0, .int .i64 a1] rfl (by (try simp only [List.map_toArray, List.map_cons, List.map_nil]); first | done | rfl | (simp only [List.length_drop, List.length_take]; rfl)) ?_; (with_reducible refine (calendar_Months.calls kj16 a0 a1 t249 t250 _ A23.out).mono ?_); rintro e w35 ⟨rfl, hb⟩; refine ⟨_, rfl, ?_⟩; have n0_ := Aside0.mk (below_step (by repeat (first | (with_reducible first | exact HB.out | apply below_alloc | apply pw_below_drewN | apply below_drew1) | exact HB.out)) hb); clear HB; have HB := n0_; clear n0_; (try clear hb); (try clear hb2); (try clear hk); (try clear hi)) | ((with_reducible refine gate_callee (f := 12) rfl ?_); refine goesL_ (some 69) rfl rfl Tryd.func12 (by kernel_rfl) rfl #[.int .i64 t250] rfl (by (try simp only [List.map_toArray, List.map_cons, List.map_nil]); first | done | rfl | (simp only [List.length_drop, List.length_take]; rfl)) ?_; (with_reducible refine (lexpriorlaw03_num.calls t250 t251 _ A24.out).mono ?_); rintro e w' ⟨rfl, ⟨nd, rfl⟩⟩; refine ⟨_, rfl, ?_⟩))
                    go_ret
                    exact ⟨by first | rfl | (simp [errW_none, errW_some] <;> rfl) | (simp [*, errW_none, errW_some] <;> rfl), by repeat (first | (with_reducible first | exact HB.out | apply below_alloc | apply pw_below_drewN | apply below_drew1) | exact HB.out)⟩
    · rw [if_neg c8] at H
      have c8b0 : (t245 == 0) = false := beq_eq_false_iff_ne.mpr c8
      have c8b1 : (t245 != 0) = true := bne_iff_ne.mpr c8
      obtain rfl := Option.some.inj H
      go_enter Tryd.func7, Tryd.ntmps7
      go_wp2_with (first | ((with_reducible refine gate_callee (f := 10) rfl ?_); refine goesL_ (some 19) rfl rfl Tryd.func10 (by kernel_rfl) rfl #[] rfl (by (try simp only [List.map_toArray, List.map_cons, List.map_nil]); first | done | rfl | (simp only [List.length_drop, List.length_take]; rfl)) ?_; (with_reducible refine (lexpriorlaw03_alive.calls k  true _ A4.out (tabT_on HTAB (by repeat (first | (with_reducible first | exact HB.out | apply below_alloc | apply pw_below_drewN | apply below_drew1 | exact Below.refl _ _) | exact HB.out | exact Below.refl _ _)))).mono ?_); rintro e w36 ⟨rfl, hb⟩; refine ⟨_, rfl, ?_⟩; have n0_ := Aside0.mk (below_step (by repeat (first | (with_reducible first | exact HB.out | apply below_alloc | apply pw_below_drewN | apply below_drew1) | exact HB.out)) hb); clear HB; have HB := n0_; clear n0_; (try clear hb); (try clear hb2); (try clear hk); (try clear hi)) | ((with_reducible refine gate_callee (f := 13) rfl ?_); refine goesL_ (some 23) rfl rfl Tryd.func13 (by kernel_rfl) rfl #[.int .i64 a0] rfl (by (try simp only [List.map_toArray, List.map_cons, List.map_nil]); first | done | rfl | (simp only [List.length_drop, List.length_take]; rfl)) ?_; (with_reducible refine (calendar_Parts.calls a0 t241 t242 t243 t244 _ A6.out).mono ?_); rintro e w37 ⟨rfl, hb⟩; refine ⟨_, rfl, ?_⟩; have n0_ := Aside0.mk (below_step (by repeat (first | (with_reducible first | exact HB.out | apply below_alloc | apply pw_below_drewN | apply below_drew1) | exact HB.out)) hb); clear HB; have HB := n0_; clear n0_; (try clear hb); (try clear hb2); (try clear hk); (try clear hi)) | ((with_reducible refine gate_callee (f := 12) rfl ?_); refine goesL_ (some 29) rfl rfl Tryd.func12 (by kernel_rfl) rfl #[.int .i64 t244] rfl (by (try simp only [List.map_toArray, List.map_cons, List.map_nil]); first | done | rfl | (simp only [List.length_drop, List.length_take]; rfl)) ?_; (with_reducible refine (lexpriorlaw03_num.calls t244 t245 _ A7.out).mono ?_); rintro e w' ⟨rfl, ⟨nd, rfl⟩⟩; refine ⟨_, rfl, ?_⟩))
      go_ret
      exact ⟨by first | rfl | (simp [errW_none, errW_some] <;> rfl) | (simp [*, errW_none, errW_some] <;> rfl), by repeat (first | (with_reducible first | exact HB.out | apply below_alloc | apply pw_below_drewN | apply below_drew1) | exact HB.out)⟩
  · replace c5 := Bool.eq_false_iff.mpr c5
    subst c5
    have H1 : (some false) = some r := by rw [if_neg (show ¬ (false = true) by decide)] at H; exact H
    clear H
    have H := H1
    clear H1
    obtain rfl := Option.some.inj H
    go_enter Tryd.func7, Tryd.ntmps7
    go_wp2_with (first | ((with_reducible refine gate_callee (f := 10) rfl ?_); refine goesL_ (some 19) rfl rfl Tryd.func10 (by kernel_rfl) rfl #[] rfl (by (try simp only [List.map_toArray, List.map_cons, List.map_nil]); first | done | rfl | (simp only [List.length_drop, List.length_take]; rfl)) ?_; (with_reducible refine (lexpriorlaw03_alive.calls k  false _ A4.out (tabT_on HTAB (by repeat (first | (with_reducible first | exact HB.out | apply below_alloc | apply pw_below_drewN | apply below_drew1 | exact Below.refl _ _) | exact HB.out | exact Below.refl _ _)))).mono ?_); rintro e w38 ⟨rfl, hb⟩; refine ⟨_, rfl, ?_⟩; have n0_ := Aside0.mk (below_step (by repeat (first | (with_reducible first | exact HB.out | apply below_alloc | apply pw_below_drewN | apply below_drew1) | exact HB.out)) hb); clear HB; have HB := n0_; clear n0_; (try clear hb); (try clear hb2); (try clear hk); (try clear hi)))
    go_ret
    exact ⟨by first | rfl | (simp [errW_none, errW_some] <;> rfl) | (simp [*, errW_none, errW_some] <;> rfl), by repeat (first | (with_reducible first | exact HB.out | apply below_alloc | apply pw_below_drewN | apply below_drew1) | exact HB.out)⟩

/-- THE ONE PURE STATEMENT of lexpriorlaw03_CalendarMonths: yours. -/
def lexpriorlaw03_CalendarMonths.Pure : Prop := ∀ (a0 : Int) (a1 : Int) (a2 : Int), (Lit.int .i64 a0).wf = true → (Lit.int .i64 a1).wf = true → (Lit.int .i64 a2).wf = true → ∃ k, lexpriorlaw03_CalendarMonths.f k a0 a1 a2 = some true
theorem lexpriorlaw03_CalendarMonths.walk (P : lexpriorlaw03_CalendarMonths.Pure) (a0 : Int) (a1 : Int) (a2 : Int) (w : World) (w0 : (Lit.int .i64 a0).wf = true) (w1 : (Lit.int .i64 a1).wf = true) (w2 : (Lit.int .i64 a2).wf = true) (HTAB : TabT w) :
    Calls Tryd.prog 7 #[.int .i64 a0, .int .i64 a1, .int .i64 a2] w fun e w' => e = .returned (.bool true) ∧ Below w.heap.size w w' := by
  obtain ⟨k, h⟩ := P a0 a1 a2 w0 w1 w2
  refine (lexpriorlaw03_CalendarMonths.calls k a0 a1 a2 true w h (tabT_on HTAB (by repeat (first | (with_reducible first | exact HB.out | apply below_alloc | apply pw_below_drewN | apply below_drew1 | exact Below.refl _ _) | exact HB.out | exact Below.refl _ _)))).mono ?_
  rintro e w' ⟨rfl, hd⟩
  exact ⟨rfl, hd⟩

/-! ### lexpriorref03_Weekday: function 25 -/
def lexpriorref03_Weekday.f (a0 : Int) : Option (Int × Int) := if a0 < 1 then (some (0, 31)) else (if a0 > 3652059 then (some (0, 31)) else (some (wrap64 ((Int.tmod (wrap64 (a0 - 1)) 7) + 1), 0)))
set_option maxHeartbeats 8000000 in
set_option maxRecDepth 100000 in
theorem lexpriorref03_Weekday.calls (a0 : Int) (r1 : Int) (r2 : Int) (w : World) (h : lexpriorref03_Weekday.f a0 = some (r1, r2)) :
    Calls Tryd.prog 25 #[.int .i64 a0] w fun e w' => e = .returned (.tuple #[.int .i64 r1, .int .i64 r2]) ∧ Drawn0 w w' := by
  have H : (if a0 < 1 then (some (0, 31)) else (if a0 > 3652059 then (some (0, 31)) else (some (wrap64 ((Int.tmod (wrap64 (a0 - 1)) 7) + 1), 0)))) = some (r1, r2) := h
  clear h
  by_cases c2 : a0 < 1
  · rw [if_pos c2] at H
    have c2b0 : decide (a0 < 1) = true := decide_eq_true c2
    clear c2
    simp only [Option.some.injEq, Prod.mk.injEq] at H
    obtain ⟨rfl, rfl⟩ := H
    go_enter Tryd.func25, Tryd.ntmps25
    go_wp2
    go_ret2
    exact ⟨by first | rfl | (simp; done) | (simp [*]; done), by repeat (first | exact Drawn0.refl _ | apply Drawn0.step)⟩
  · rw [if_neg c2] at H
    have c2b0 : decide (a0 < 1) = false := decide_eq_false c2
    clear c2
    by_cases c3 : a0 > 3652059
    · rw [if_pos c3] at H
      have c3b0 : decide (3652059 < a0) = true := decide_eq_true c3
      clear c3
      simp only [Option.some.injEq, Prod.mk.injEq] at H
      obtain ⟨rfl, rfl⟩ := H
      go_enter Tryd.func25, Tryd.ntmps25
      go_wp2
      go_ret2
      exact ⟨by first | rfl | (simp; done) | (simp [*]; done), by repeat (first | exact Drawn0.refl _ | apply Drawn0.step)⟩
    · rw [if_neg c3] at H
      have c3b0 : decide (3652059 < a0) = false := decide_eq_false c3
      clear c3
      simp only [Option.some.injEq, Prod.mk.injEq] at H
      obtain ⟨rfl, rfl⟩ := H
      go_enter Tryd.func25, Tryd.ntmps25
      go_wp2
      go_ret2
      exact ⟨by first | rfl | (simp; done) | (simp [*]; done), by repeat (first | exact Drawn0.refl _ | apply Drawn0.step)⟩

/-! ### lexpriorref03_Months: function 26 -/
mutual
def lexpriorref03_Months.j0 : Nat → Int → Int → Int → Int → Bool → Option (Int × Int)
  | 0, _, _, _, _, _ => none
  | k + 1, x1, x6, x7, x8, x26 => if x26 = true then (some (0, 4)) else (if (wrap64 ((wrap64 ((wrap64 ((wrap64 (x6 * 12)) + x7)) - 1)) + x1)) < 12 then (lexpriorref03_Months.j1 k x8 (wrap64 ((wrap64 ((wrap64 ((wrap64 (x6 * 12)) + x7)) - 1)) + x1)) true) else (lexpriorref03_Months.j1 k x8 (wrap64 ((wrap64 ((wrap64 ((wrap64 (x6 * 12)) + x7)) - 1)) + x1)) (decide ((wrap64 ((wrap64 ((wrap64 ((wrap64 (x6 * 12)) + x7)) - 1)) + x1)) ≥ 120000))))
def lexpriorref03_Months.j1 : Nat → Int → Int → Bool → Option (Int × Int)
  | 0, _, _, _ => none
  | k + 1, x8, x10, x39 => if x39 = true then (some (0, 4)) else ((lexpriorref03_days.f (wrap64 (Int.tdiv x10 12)) (wrap64 ((Int.tmod x10 12) + 1))).bind fun t260 => (if x8 > t260 then ((lexpriorref03_days.f (wrap64 (Int.tdiv x10 12)) (wrap64 ((Int.tmod x10 12) + 1))).bind fun t261 => ((lexpriorref03_Of.f k (wrap64 (Int.tdiv x10 12)) (wrap64 ((Int.tmod x10 12) + 1)) t261).bind fun bt262 => (some (bt262.1, bt262.2)))) else ((lexpriorref03_Of.f k (wrap64 (Int.tdiv x10 12)) (wrap64 ((Int.tmod x10 12) + 1)) x8).bind fun bt264 => (some (bt264.1, bt264.2)))))
end
def lexpriorref03_Months.f (k : Nat) (a0 : Int) (a1 : Int) : Option (Int × Int) := (lexpriorref03_Parts.f k a0).bind fun bt256 => (if bt256.2.2.2 = 0 then (if a1 < (-120000) then (lexpriorref03_Months.j0 k a1 bt256.1 bt256.2.1 bt256.2.2.1 true) else (lexpriorref03_Months.j0 k a1 bt256.1 bt256.2.1 bt256.2.2.1 (decide (a1 > 120000)))) else (some (0, bt256.2.2.2)))
theorem lexpriorref03_Months.mono_l : ∀ k, (∀ y0 y1 y2 y3 y4, LeO (lexpriorref03_Months.j0 k y0 y1 y2 y3 y4) (lexpriorref03_Months.j0 (k + 1) y0 y1 y2 y3 y4)) ∧ (∀ y0 y1 y2, LeO (lexpriorref03_Months.j1 k y0 y1 y2) (lexpriorref03_Months.j1 (k + 1) y0 y1 y2))
  | 0 => ⟨fun _ _ _ _ _ r h => by simp [lexpriorref03_Months.j0] at h, fun _ _ _ r h => by simp [lexpriorref03_Months.j1] at h⟩
  | k + 1 => by
    obtain ⟨ih0, ih1⟩ := lexpriorref03_Months.mono_l k
    refine ⟨?_, ?_⟩
    · intro y0 y1 y2 y3 y4
      unfold lexpriorref03_Months.j0
      repeat' first
      | (with_reducible exact ih0 _ _ _ _ _)
      | (with_reducible exact ih1 _ _ _)
      | (with_reducible exact lexpriorref03_Of.mono _ _ _ _)
      | (with_reducible exact lexpriorref03_Parts.mono _ _)
      | (with_reducible exact LeO.refl _)
      | (with_reducible exact LeO.none _)
      | (with_reducible refine LeO.ite ?_ ?_)
      | (with_reducible refine LeO.bind ?_ (fun _ => ?_))
      | exact ih0 _ _ _ _ _
      | exact ih1 _ _ _
      | exact lexpriorref03_Of.mono _ _ _ _
      | exact lexpriorref03_Parts.mono _ _
      | exact LeO.none _
      | refine LeO.ite ?_ ?_
      | refine LeO.bind ?_ (fun _ => ?_)
    · intro y0 y1 y2
      unfold lexpriorref03_Months.j1
      repeat' first
      | (with_reducible exact ih0 _ _ _ _ _)
      | (with_reducible exact ih1 _ _ _)
      | (with_reducible exact lexpriorref03_Of.mono _ _ _ _)
      | (with_reducible exact lexpriorref03_Parts.mono _ _)
      | (with_reducible exact LeO.refl _)
      | (with_reducible exact LeO.none _)
      | (with_reducible refine LeO.ite ?_ ?_)
      | (with_reducible refine LeO.bind ?_ (fun _ => ?_))
      | exact ih0 _ _ _ _ _
      | exact ih1 _ _ _
      | exact lexpriorref03_Of.mono _ _ _ _
      | exact lexpriorref03_Parts.mono _ _
      | exact LeO.none _
      | refine LeO.ite ?_ ?_
      | refine LeO.bind ?_ (fun _ => ?_)
theorem lexpriorref03_Months.mono : ∀ a0 a1 k, LeO (lexpriorref03_Months.f k a0 a1) (lexpriorref03_Months.f (k + 1) a0 a1) := by
  intro a0 a1 k
  obtain ⟨ih0, ih1⟩ := lexpriorref03_Months.mono_l k
  unfold lexpriorref03_Months.f
  repeat' first
      | (with_reducible exact ih0 _ _ _ _ _)
      | (with_reducible exact ih1 _ _ _)
      | (with_reducible exact lexpriorref03_Of.mono _ _ _ _)
      | (with_reducible exact lexpriorref03_Parts.mono _ _)
      | (with_reducible exact LeO.refl _)
      | (with_reducible exact LeO.none _)
      | (with_reducible refine LeO.ite ?_ ?_)
      | (with_reducible refine LeO.bind ?_ (fun _ => ?_))
      | exact ih0 _ _ _ _ _
      | exact ih1 _ _ _
      | exact lexpriorref03_Of.mono _ _ _ _
      | exact lexpriorref03_Parts.mono _ _
      | exact LeO.none _
      | refine LeO.ite ?_ ?_
      | refine LeO.bind ?_ (fun _ => ?_)
set_option maxHeartbeats 8000000 in
set_option maxRecDepth 100000 in
theorem lexpriorref03_Months.calls (k : Nat) (a0 : Int) (a1 : Int) (r1 : Int) (r2 : Int) (w : World) (h : lexpriorref03_Months.f k a0 a1 = some (r1, r2)) :
    Calls Tryd.prog 26 #[.int .i64 a0, .int .i64 a1] w fun e w' => e = .returned (.tuple #[.int .i64 r1, .int .i64 r2]) ∧ Drawn0 w w' := by
  have H : ((lexpriorref03_Parts.f k a0).bind fun bt256 => (if bt256.2.2.2 = 0 then (if a1 < (-120000) then (lexpriorref03_Months.j0 k a1 bt256.1 bt256.2.1 bt256.2.2.1 true) else (lexpriorref03_Months.j0 k a1 bt256.1 bt256.2.1 bt256.2.2.1 (decide (a1 > 120000)))) else (some (0, bt256.2.2.2)))) = some (r1, r2) := h
  clear h
  replace H := Option.bind_eq_some_iff.mp H
  obtain ⟨⟨t256, t257, t258, t259⟩, A30, H⟩ := H
  replace H : (if t259 = 0 then (if a1 < (-120000) then (lexpriorref03_Months.j0 k a1 t256 t257 t258 true) else (lexpriorref03_Months.j0 k a1 t256 t257 t258 (decide (a1 > 120000)))) else (some (0, t259))) = some (r1, r2) := H
  have A3 := Aside0.mk A30
  clear A30
  by_cases c4 : t259 = 0
  · rw [if_pos c4] at H
    have c4b0 : (t259 == 0) = true := beq_iff_eq.mpr c4
    have c4b1 : (t259 != 0) = false := bne_eq_false_iff_eq.mpr c4
    clear c4
    have HC5 := Aside0.mk H
    clear H
    go_enter Tryd.func26, Tryd.ntmps26
    go_upto_region 4 with (first | ((with_reducible refine gate_callee (f := 18) rfl ?_); refine goesL_ (some 13) rfl rfl Tryd.func18 (by kernel_rfl) rfl #[.int .i64 a0] rfl (by (try simp only [List.map_toArray, List.map_cons, List.map_nil]); first | done | rfl | (simp only [List.length_drop, List.length_take]; rfl)) ?_; (with_reducible refine (lexpriorref03_Parts.calls k a0 t256 t257 t258 t259 _ A3.out).mono ?_); rintro e w' ⟨rfl, ⟨nd, rfl⟩⟩; refine ⟨_, rfl, ?_⟩))
    (try simp only [Act.put, List.setIfInBounds_toArray, List.set_cons_zero, List.set_cons_succ])
    go_cut [26] (fun v26 wc => ∃ (kq : Nat) (x26_4 : Bool), v26 = .bool x26_4 ∧ Aside0 (lexpriorref03_Months.j0 kq a1 t256 t257 t258 x26_4 = some (r1, r2)) ∧ Aside0 (kq ≤ k) ∧ Drawn0 w wc)
    case first =>
      have H := HC5.out
      clear HC5
      by_cases c6 : a1 < (-120000)
      · rw [if_pos c6] at H
        have c6b0 : decide (a1 < (-120000)) = true := decide_eq_true c6
        clear c6
        (first | rw [c6b0] | (simp only [i64_w, i32_w]; rw [c6b0]) | skip)
        have H' := Aside0.mk H
        clear H
        go_wp2
        go_meet
        case rel => exact ⟨_, (true), (by first | rfl | (simp; done) | (simp [*]; done)), H', ⟨by first | omega | exact Nat.le_refl _⟩, by repeat (first | exact Drawn0.refl _ | apply Drawn0.step)⟩
      · rw [if_neg c6] at H
        have c6b0 : decide (a1 < (-120000)) = false := decide_eq_false c6
        clear c6
        (first | rw [c6b0] | (simp only [i64_w, i32_w]; rw [c6b0]) | skip)
        have H' := Aside0.mk H
        clear H
        go_wp2
        go_meet
        case rel => exact ⟨_, (decide (a1 > 120000)), (by first | rfl | (simp; done) | (simp [*]; done)), H', ⟨by first | omega | exact Nat.le_refl _⟩, by repeat (first | exact Drawn0.refl _ | apply Drawn0.step)⟩
    case rest =>
      clear HC5
      try clear c1
      try clear c2
      try clear p2
      try clear c4
      try clear c4b0
      try clear c4b1
      try clear c6
      try clear c6b0
      obtain ⟨kq, x26_4, rfl, HA, HJ4, ⟨mc4, rfl⟩⟩ := hcut
      cases kq with
      | zero => exact absurd HA.out (by simp [lexpriorref03_Months.j0])
      | succ kj4 =>
        have H := HA.out
        clear HA
        simp only [lexpriorref03_Months.j0] at H
        by_cases c7 : x26_4 = true
        · subst c7
          have H1 : (some (0, 4)) = some (r1, r2) := by rw [if_pos rfl] at H; exact H
          clear H
          have H := H1
          clear H1
          simp only [Option.some.injEq, Prod.mk.injEq] at H
          obtain ⟨rfl, rfl⟩ := H
          go_wp2
          go_ret2
          exact ⟨by first | rfl | (simp; done) | (simp [*]; done), by repeat (first | exact Drawn0.refl _ | apply Drawn0.step)⟩
        · replace c7 := Bool.eq_false_iff.mpr c7
          subst c7
          have H1 : (if (wrap64 ((wrap64 ((wrap64 ((wrap64 (t256 * 12)) + t257)) - 1)) + a1)) < 12 then (lexpriorref03_Months.j1 kj4 t258 (wrap64 ((wrap64 ((wrap64 ((wrap64 (t256 * 12)) + t257)) - 1)) + a1)) true) else (lexpriorref03_Months.j1 kj4 t258 (wrap64 ((wrap64 ((wrap64 ((wrap64 (t256 * 12)) + t257)) - 1)) + a1)) (decide ((wrap64 ((wrap64 ((wrap64 ((wrap64 (t256 * 12)) + t257)) - 1)) + a1)) ≥ 120000)))) = some (r1, r2) := by rw [if_neg (show ¬ (false = true) by decide)] at H; exact H
          clear H
          have H := H1
          clear H1
          have HC8 := Aside0.mk H
          clear H
          go_upto_region 7 with (fail)
          go_cut [39] (fun v39 wc => ∃ (kq : Nat) (x39_7 : Bool), v39 = .bool x39_7 ∧ Aside0 (lexpriorref03_Months.j1 kq t258 (wrap64 ((wrap64 ((wrap64 ((wrap64 (t256 * 12)) + t257)) - 1)) + a1)) x39_7 = some (r1, r2)) ∧ Aside0 (kq ≤ kj4) ∧ Drawn0 w wc)
          case first =>
            have H := HC8.out
            clear HC8
            by_cases c9 : (wrap64 ((wrap64 ((wrap64 ((wrap64 (t256 * 12)) + t257)) - 1)) + a1)) < 12
            · rw [if_pos c9] at H
              have c9b0 : decide ((wrap64 ((wrap64 ((wrap64 ((wrap64 (t256 * 12)) + t257)) - 1)) + a1)) < 12) = true := decide_eq_true c9
              clear c9
              (first | rw [c9b0] | (simp only [i64_w, i32_w]; rw [c9b0]) | skip)
              have H' := Aside0.mk H
              clear H
              go_wp2
              go_meet
              case rel => exact ⟨_, (true), (by first | rfl | (simp; done) | (simp [*]; done)), H', ⟨by have := HJ4.out; first | omega | exact Nat.le_refl _⟩, by repeat (first | exact Drawn0.refl _ | apply Drawn0.step)⟩
            · rw [if_neg c9] at H
              have c9b0 : decide ((wrap64 ((wrap64 ((wrap64 ((wrap64 (t256 * 12)) + t257)) - 1)) + a1)) < 12) = false := decide_eq_false c9
              clear c9
              (first | rw [c9b0] | (simp only [i64_w, i32_w]; rw [c9b0]) | skip)
              have H' := Aside0.mk H
              clear H
              go_wp2
              go_meet
              case rel => exact ⟨_, (decide ((wrap64 ((wrap64 ((wrap64 ((wrap64 (t256 * 12)) + t257)) - 1)) + a1)) ≥ 120000)), (by first | rfl | (simp; done) | (simp [*]; done)), H', ⟨by have := HJ4.out; first | omega | exact Nat.le_refl _⟩, by repeat (first | exact Drawn0.refl _ | apply Drawn0.step)⟩
          case rest =>
            clear HC8
            try clear c1
            try clear c2
            try clear p2
            try clear c4
            try clear c4b0
            try clear c4b1
            try clear c6
            try clear c6b0
            try clear p6
            try clear c7
            try clear c9
            try clear c9b0
            try clear p2
            obtain ⟨kq, x39_7, rfl, HA, HJ7, ⟨mc7, rfl⟩⟩ := hcut
            cases kq with
            | zero => exact absurd HA.out (by simp [lexpriorref03_Months.j1])
            | succ kj7 =>
              have H := HA.out
              clear HA
              simp only [lexpriorref03_Months.j1] at H
              by_cases c10 : x39_7 = true
              · subst c10
                have H1 : (some (0, 4)) = some (r1, r2) := by rw [if_pos rfl] at H; exact H
                clear H
                have H := H1
                clear H1
                simp only [Option.some.injEq, Prod.mk.injEq] at H
                obtain ⟨rfl, rfl⟩ := H
                go_wp2
                go_ret2
                exact ⟨by first | rfl | (simp; done) | (simp [*]; done), by repeat (first | exact Drawn0.refl _ | apply Drawn0.step)⟩
              · replace c10 := Bool.eq_false_iff.mpr c10
                subst c10
                have H1 : ((lexpriorref03_days.f (wrap64 (Int.tdiv (wrap64 ((wrap64 ((wrap64 ((wrap64 (t256 * 12)) + t257)) - 1)) + a1)) 12)) (wrap64 ((Int.tmod (wrap64 ((wrap64 ((wrap64 ((wrap64 (t256 * 12)) + t257)) - 1)) + a1)) 12) + 1))).bind fun t260 => (if t258 > t260 then ((lexpriorref03_days.f (wrap64 (Int.tdiv (wrap64 ((wrap64 ((wrap64 ((wrap64 (t256 * 12)) + t257)) - 1)) + a1)) 12)) (wrap64 ((Int.tmod (wrap64 ((wrap64 ((wrap64 ((wrap64 (t256 * 12)) + t257)) - 1)) + a1)) 12) + 1))).bind fun t261 => ((lexpriorref03_Of.f kj7 (wrap64 (Int.tdiv (wrap64 ((wrap64 ((wrap64 ((wrap64 (t256 * 12)) + t257)) - 1)) + a1)) 12)) (wrap64 ((Int.tmod (wrap64 ((wrap64 ((wrap64 ((wrap64 (t256 * 12)) + t257)) - 1)) + a1)) 12) + 1)) t261).bind fun bt262 => (some (bt262.1, bt262.2)))) else ((lexpriorref03_Of.f kj7 (wrap64 (Int.tdiv (wrap64 ((wrap64 ((wrap64 ((wrap64 (t256 * 12)) + t257)) - 1)) + a1)) 12)) (wrap64 ((Int.tmod (wrap64 ((wrap64 ((wrap64 ((wrap64 (t256 * 12)) + t257)) - 1)) + a1)) 12) + 1)) t258).bind fun bt264 => (some (bt264.1, bt264.2))))) = some (r1, r2) := by rw [if_neg (show ¬ (false = true) by decide)] at H; exact H
                clear H
                have H := H1
                clear H1
                replace H := Option.bind_eq_some_iff.mp H
                obtain ⟨t260, A110, H⟩ := H
                replace H : (if t258 > t260 then ((lexpriorref03_days.f (wrap64 (Int.tdiv (wrap64 ((wrap64 ((wrap64 ((wrap64 (t256 * 12)) + t257)) - 1)) + a1)) 12)) (wrap64 ((Int.tmod (wrap64 ((wrap64 ((wrap64 ((wrap64 (t256 * 12)) + t257)) - 1)) + a1)) 12) + 1))).bind fun t261 => ((lexpriorref03_Of.f kj7 (wrap64 (Int.tdiv (wrap64 ((wrap64 ((wrap64 ((wrap64 (t256 * 12)) + t257)) - 1)) + a1)) 12)) (wrap64 ((Int.tmod (wrap64 ((wrap64 ((wrap64 ((wrap64 (t256 * 12)) + t257)) - 1)) + a1)) 12) + 1)) t261).bind fun bt262 => (some (bt262.1, bt262.2)))) else ((lexpriorref03_Of.f kj7 (wrap64 (Int.tdiv (wrap64 ((wrap64 ((wrap64 ((wrap64 (t256 * 12)) + t257)) - 1)) + a1)) 12)) (wrap64 ((Int.tmod (wrap64 ((wrap64 ((wrap64 ((wrap64 (t256 * 12)) + t257)) - 1)) + a1)) 12) + 1)) t258).bind fun bt264 => (some (bt264.1, bt264.2)))) = some (r1, r2) := H
                have A11 := Aside0.mk A110
                clear A110
                by_cases c12 : t258 > t260
                · rw [if_pos c12] at H
                  have c12b0 : decide (t260 < t258) = true := decide_eq_true c12
                  clear c12
                  replace H := Option.bind_eq_some_iff.mp H
                  obtain ⟨t261, A130, H⟩ := H
                  replace H : ((lexpriorref03_Of.f kj7 (wrap64 (Int.tdiv (wrap64 ((wrap64 ((wrap64 ((wrap64 (t256 * 12)) + t257)) - 1)) + a1)) 12)) (wrap64 ((Int.tmod (wrap64 ((wrap64 ((wrap64 ((wrap64 (t256 * 12)) + t257)) - 1)) + a1)) 12) + 1)) t261).bind fun bt262 => (some (bt262.1, bt262.2))) = some (r1, r2) := H
                  have A13 := Aside0.mk A130
                  clear A130
                  replace H := Option.bind_eq_some_iff.mp H
                  obtain ⟨⟨t262, t263⟩, A140, H⟩ := H
                  replace H : (some (t262, t263)) = some (r1, r2) := H
                  have A14 := Aside0.mk A140
                  clear A140
                  simp only [Option.some.injEq, Prod.mk.injEq] at H
                  obtain ⟨rfl, rfl⟩ := H
                  go_wp2_with (first | ((with_reducible refine gate_callee (f := 33) rfl ?_); refine goesL_ (some 48) rfl rfl Tryd.func33 (by kernel_rfl) rfl #[.int .i64 (wrap64 (Int.tdiv (wrap64 ((wrap64 ((wrap64 ((wrap64 (t256 * 12)) + t257)) - 1)) + a1)) 12)), .int .i64 (wrap64 ((Int.tmod (wrap64 ((wrap64 ((wrap64 ((wrap64 (t256 * 12)) + t257)) - 1)) + a1)) 12) + 1))] rfl (by (try simp only [List.map_toArray, List.map_cons, List.map_nil]); first | done | rfl | (simp only [List.length_drop, List.length_take]; rfl)) ?_; (with_reducible refine (lexpriorref03_days.calls (wrap64 (Int.tdiv (wrap64 ((wrap64 ((wrap64 ((wrap64 (t256 * 12)) + t257)) - 1)) + a1)) 12)) (wrap64 ((Int.tmod (wrap64 ((wrap64 ((wrap64 ((wrap64 (t256 * 12)) + t257)) - 1)) + a1)) 12) + 1)) t260 _ A11.out).mono ?_); rintro e w' ⟨rfl, ⟨nd, rfl⟩⟩; refine ⟨_, rfl, ?_⟩) | ((with_reducible refine gate_callee (f := 33) rfl ?_); refine goesL_ (some 52) rfl rfl Tryd.func33 (by kernel_rfl) rfl #[.int .i64 (wrap64 (Int.tdiv (wrap64 ((wrap64 ((wrap64 ((wrap64 (t256 * 12)) + t257)) - 1)) + a1)) 12)), .int .i64 (wrap64 ((Int.tmod (wrap64 ((wrap64 ((wrap64 ((wrap64 (t256 * 12)) + t257)) - 1)) + a1)) 12) + 1))] rfl (by (try simp only [List.map_toArray, List.map_cons, List.map_nil]); first | done | rfl | (simp only [List.length_drop, List.length_take]; rfl)) ?_; (with_reducible refine (lexpriorref03_days.calls (wrap64 (Int.tdiv (wrap64 ((wrap64 ((wrap64 ((wrap64 (t256 * 12)) + t257)) - 1)) + a1)) 12)) (wrap64 ((Int.tmod (wrap64 ((wrap64 ((wrap64 ((wrap64 (t256 * 12)) + t257)) - 1)) + a1)) 12) + 1)) t261 _ A13.out).mono ?_); rintro e w' ⟨rfl, ⟨nd, rfl⟩⟩; refine ⟨_, rfl, ?_⟩) | ((with_reducible refine gate_callee (f := 15) rfl ?_); refine goesL_ (some 56) rfl rfl Tryd.func15 (by kernel_rfl) rfl #[.int .i64 (wrap64 (Int.tdiv (wrap64 ((wrap64 ((wrap64 ((wrap64 (t256 * 12)) + t257)) - 1)) + a1)) 12)), .int .i64 (wrap64 ((Int.tmod (wrap64 ((wrap64 ((wrap64 ((wrap64 (t256 * 12)) + t257)) - 1)) + a1)) 12) + 1)), .int .i64 t261] rfl (by (try simp only [List.map_toArray, List.map_cons, List.map_nil]); first | done | rfl | (simp only [List.length_drop, List.length_take]; rfl)) ?_; (with_reducible refine (lexpriorref03_Of.calls kj7 (wrap64 (Int.tdiv (wrap64 ((wrap64 ((wrap64 ((wrap64 (t256 * 12)) + t257)) - 1)) + a1)) 12)) (wrap64 ((Int.tmod (wrap64 ((wrap64 ((wrap64 ((wrap64 (t256 * 12)) + t257)) - 1)) + a1)) 12) + 1)) t261 t262 t263 _ A14.out).mono ?_); rintro e w' ⟨rfl, ⟨nd, rfl⟩⟩; refine ⟨_, rfl, ?_⟩))
                  go_ret2
                  exact ⟨by first | rfl | (simp; done) | (simp [*]; done), by repeat (first | exact Drawn0.refl _ | apply Drawn0.step)⟩
                · rw [if_neg c12] at H
                  have c12b0 : decide (t260 < t258) = false := decide_eq_false c12
                  clear c12
                  replace H := Option.bind_eq_some_iff.mp H
                  obtain ⟨⟨t264, t265⟩, A150, H⟩ := H
                  replace H : (some (t264, t265)) = some (r1, r2) := H
                  have A15 := Aside0.mk A150
                  clear A150
                  simp only [Option.some.injEq, Prod.mk.injEq] at H
                  obtain ⟨rfl, rfl⟩ := H
                  go_wp2_with (first | ((with_reducible refine gate_callee (f := 33) rfl ?_); refine goesL_ (some 48) rfl rfl Tryd.func33 (by kernel_rfl) rfl #[.int .i64 (wrap64 (Int.tdiv (wrap64 ((wrap64 ((wrap64 ((wrap64 (t256 * 12)) + t257)) - 1)) + a1)) 12)), .int .i64 (wrap64 ((Int.tmod (wrap64 ((wrap64 ((wrap64 ((wrap64 (t256 * 12)) + t257)) - 1)) + a1)) 12) + 1))] rfl (by (try simp only [List.map_toArray, List.map_cons, List.map_nil]); first | done | rfl | (simp only [List.length_drop, List.length_take]; rfl)) ?_; (with_reducible refine (lexpriorref03_days.calls (wrap64 (Int.tdiv (wrap64 ((wrap64 ((wrap64 ((wrap64 (t256 * 12)) + t257)) - 1)) + a1)) 12)) (wrap64 ((Int.tmod (wrap64 ((wrap64 ((wrap64 ((wrap64 (t256 * 12)) + t257)) - 1)) + a1)) 12) + 1)) t260 _ A11.out).mono ?_); rintro e w' ⟨rfl, ⟨nd, rfl⟩⟩; refine ⟨_, rfl, ?_⟩) | ((with_reducible refine gate_callee (f := 15) rfl ?_); refine goesL_ (some 56) rfl rfl Tryd.func15 (by kernel_rfl) rfl #[.int .i64 (wrap64 (Int.tdiv (wrap64 ((wrap64 ((wrap64 ((wrap64 (t256 * 12)) + t257)) - 1)) + a1)) 12)), .int .i64 (wrap64 ((Int.tmod (wrap64 ((wrap64 ((wrap64 ((wrap64 (t256 * 12)) + t257)) - 1)) + a1)) 12) + 1)), .int .i64 t258] rfl (by (try simp only [List.map_toArray, List.map_cons, List.map_nil]); first | done | rfl | (simp only [List.length_drop, List.length_take]; rfl)) ?_; (with_reducible refine (lexpriorref03_Of.calls kj7 (wrap64 (Int.tdiv (wrap64 ((wrap64 ((wrap64 ((wrap64 (t256 * 12)) + t257)) - 1)) + a1)) 12)) (wrap64 ((Int.tmod (wrap64 ((wrap64 ((wrap64 ((wrap64 (t256 * 12)) + t257)) - 1)) + a1)) 12) + 1)) t258 t264 t265 _ A15.out).mono ?_); rintro e w' ⟨rfl, ⟨nd, rfl⟩⟩; refine ⟨_, rfl, ?_⟩))
                  go_ret2
                  exact ⟨by first | rfl | (simp; done) | (simp [*]; done), by repeat (first | exact Drawn0.refl _ | apply Drawn0.step)⟩
  · rw [if_neg c4] at H
    have c4b0 : (t259 == 0) = false := beq_eq_false_iff_ne.mpr c4
    have c4b1 : (t259 != 0) = true := bne_iff_ne.mpr c4
    simp only [Option.some.injEq, Prod.mk.injEq] at H
    obtain ⟨rfl, rfl⟩ := H
    go_enter Tryd.func26, Tryd.ntmps26
    go_wp2_with (first | ((with_reducible refine gate_callee (f := 18) rfl ?_); refine goesL_ (some 13) rfl rfl Tryd.func18 (by kernel_rfl) rfl #[.int .i64 a0] rfl (by (try simp only [List.map_toArray, List.map_cons, List.map_nil]); first | done | rfl | (simp only [List.length_drop, List.length_take]; rfl)) ?_; (with_reducible refine (lexpriorref03_Parts.calls k a0 t256 t257 t258 t259 _ A3.out).mono ?_); rintro e w' ⟨rfl, ⟨nd, rfl⟩⟩; refine ⟨_, rfl, ?_⟩))
    go_ret2
    exact ⟨by first | rfl | (simp; done) | (simp [*]; done), by repeat (first | exact Drawn0.refl _ | apply Drawn0.step)⟩

end Go.Proofs.YtimohodndbkchaaDoor.P
