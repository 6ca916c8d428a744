-- Written by lexprint.py, a program of this session's own that runs the kit's print with turned rows. Lean checks it.
import Derived.Test.YtmjneidcdaapdaaPx0
import Derived.Test.YtmjneidcdaapdaaLex8
import Derived.Test.YtmjneidcdaapdaaLexB
import Derived.Test.YtmjneidcdaapdaaPx2
import Derived.Test.YtmjneidcdaapdaaPx3
import Derived.Test.YtmjneidcdaapdaaPx6
namespace Go.Proofs.Ytmjneidcdaapdaa.P
open Go.RowKit Go.Proofs.YtmjneidcdaapdaaW.PrintWords Go.Proofs.YtmjneidcdaapdaaW.PrintLast Go.Proofs.YtmjneidcdaapdaaW.PrintMore
attribute [local go_sem] max2_int min2_int max_two min_two max_three min_three max_four min_four   -- for this text's walks alone
set_option linter.unusedVariables false
set_option linter.unusedSimpArgs false

/-! ### lexpriorref04_Join: function 28 -/
def lexpriorref04_Join.l0 : Nat → List (S76) → ByteArray → Int → Option (ByteArray × Int × Int)
 | 0, _, _, _ => none
 | k + 1, x0, x5, x6 => if x6 < (x0.length : Int) then (if 0 ≤ x6 then ((lexpriorref04_Text.f k ((rd_T76 x0 x6).f0) ((rd_T76 x0 x6).f1) ((rd_T76 x0 x6).f2)).bind fun bt193 => (if bt193.2 = 0 then (if (x5.size : Int) ≤ 65536 then (if x6 > 0 then (if x5.size + 1 ≤ 9223372036854775807 then (if (x5 ++ (⟨#[32]⟩ : ByteArray)).size + bt193.1.size ≤ 9223372036854775807 then (lexpriorref04_Join.l0 k x0 ((x5 ++ (⟨#[32]⟩ : ByteArray)) ++ bt193.1) (wrap64 (x6 + 1))) else (none)) else (none)) else (if x5.size + bt193.1.size ≤ 9223372036854775807 then (lexpriorref04_Join.l0 k x0 (x5 ++ bt193.1) (wrap64 (x6 + 1))) else (none))) else (lexpriorref04_Join.l0 k x0 x5 (wrap64 (x6 + 1)))) else (some ((⟨#[]⟩ : ByteArray), 51, x6)))) else (none)) else (if (x5.size : Int) > 65536 then (some ((⟨#[]⟩ : ByteArray), 5, (x0.length : Int))) else (some (x5, 0, (x0.length : Int))))
def lexpriorref04_Join.f (k : Nat) (l0 : List (S76)) : Option (ByteArray × Int × Int) := lexpriorref04_Join.l0 k l0 (⟨#[]⟩ : ByteArray) 0
theorem lexpriorref04_Join.mono_l : ∀ k, (∀ y0 y1 y2, LeO (lexpriorref04_Join.l0 k y0 y1 y2) (lexpriorref04_Join.l0 (k + 1) y0 y1 y2))
 | 0 => fun _ _ _ r h => by simp [lexpriorref04_Join.l0] at h
 | k + 1 => by
  have ih0 := lexpriorref04_Join.mono_l k
  ·intro y0 y1 y2
   unfold lexpriorref04_Join.l0
   repeat' first
   | (with_reducible exact ih0 _ _ _)
   | (with_reducible exact lexpriorref04_Text.mono _ _ _ _)
   | (with_reducible exact LeO.refl _)
   | (with_reducible exact LeO.none _)
   | (with_reducible refine LeO.ite ?_ ?_)
   | (with_reducible refine LeO.bind ?_ (fun _ => ?_))
   | exact ih0 _ _ _
   | exact lexpriorref04_Text.mono _ _ _ _
   | exact LeO.none _
   | refine LeO.ite ?_ ?_
   | refine LeO.bind ?_ (fun _ => ?_)
theorem lexpriorref04_Join.mono : ∀ a0 k, LeO (lexpriorref04_Join.f k a0) (lexpriorref04_Join.f (k + 1) a0) := by
 intro a0 k
 have ih0 := lexpriorref04_Join.mono_l k
 unfold lexpriorref04_Join.f
 repeat' first
   | (with_reducible exact ih0 _ _ _)
   | (with_reducible exact lexpriorref04_Text.mono _ _ _ _)
   | (with_reducible exact LeO.refl _)
   | (with_reducible exact LeO.none _)
   | (with_reducible refine LeO.ite ?_ ?_)
   | (with_reducible refine LeO.bind ?_ (fun _ => ?_))
   | exact ih0 _ _ _
   | exact lexpriorref04_Text.mono _ _ _ _
   | exact LeO.none _
   | refine LeO.ite ?_ ?_
   | refine LeO.bind ?_ (fun _ => ?_)
set_option maxHeartbeats 8000000 in
set_option maxRecDepth 100000 in
theorem lexpriorref04_Join.calls (k : Nat) (A0 : Option Addr) (c0 : Nat) (l0 : List (S76)) (r1 : ByteArray) (r2 : Int) (r3 : Int) (w : World) (hr0 : Kd.C k76 w A0 l0.length l0) (hc0 : l0.length ≤ c0) (h : lexpriorref04_Join.f k l0 = some (r1, r2, r3)) :
  Calls Try.prog 28 #[.slice A0 l0.length c0] w fun e w' => e = .returned (.tuple #[.string r1, .int .i64 r2, .int .i64 r3]) ∧ Below w.heap.size w w' := by
 have hu76 := Try.underlying76
 have HR0 := Aside0.mk hr0
 have HC0 := Aside0.mk hc0
 clear hr0 hc0
 have HB := Aside0.mk (Below.refl w.heap.size w)
 have H : (lexpriorref04_Join.l0 k l0 (⟨#[]⟩ : ByteArray) 0) = some (r1, r2, r3) := h
 clear h
 have H' := Aside0.mk H
 clear H
 go_enter Try.func28, Try.ntmps28
 go_wp2
 go_loopg [5, 6] k (fun kq v5 v6 w' => ∃ (x5_1 : ByteArray) (x6_1 : Int), v5 = .string x5_1 ∧ v6 = .int .i64 x6_1 ∧ Aside0 (lexpriorref04_Join.l0 kq l0 x5_1 x6_1 = some (r1, r2, r3)) ∧ Aside0 (kq ≤ k) ∧ Aside0 (Below w.heap.size w w'))
 case atStart => exact ⟨((⟨#[]⟩ : ByteArray)), (0), (by first | rfl | (simp; done) | (simp [*]; done)), (by first | rfl | (simp; done) | (simp [*]; done)), H', ⟨Nat.le_refl _⟩, ⟨by repeat (first | (with_reducible first | exact HB.out | apply below_alloc | apply pw_below_drewN | apply below_drew1) | exact HB.out)⟩⟩
 case round =>
  clear H'
  obtain ⟨x5_1, x6_1, rfl, rfl, HA, HK1, HB⟩ := hrel
  cases gk with
  | zero => exact absurd HA.out (by simp [lexpriorref04_Join.l0])
  | succ k1 =>
   have H := HA.out
   clear HA
   simp only [lexpriorref04_Join.l0] at H
   by_cases c2 : x6_1 < (l0.length : Int)
   ·rw [if_pos c2] at H
    have c2b0 : decide (x6_1 < (l0.length : Int)) = true := decide_eq_true c2
    clear c2
    by_cases c3 : 0 ≤ x6_1
    ·rw [if_pos c3] at H
     have c3b0 : decide (0 ≤ x6_1) = true := decide_eq_true c3
     clear c3
     replace H := Option.bind_eq_some_iff.mp H
     obtain ⟨⟨t193, t194⟩, A40, H⟩ := H
     replace H : (if t194 = 0 then (if (x5_1.size : Int) ≤ 65536 then (if x6_1 > 0 then (if x5_1.size + 1 ≤ 9223372036854775807 then (if (x5_1 ++ (⟨#[32]⟩ : ByteArray)).size + t193.size ≤ 9223372036854775807 then (lexpriorref04_Join.l0 k1 l0 ((x5_1 ++ (⟨#[32]⟩ : ByteArray)) ++ t193) (wrap64 (x6_1 + 1))) else (none)) else (none)) else (if x5_1.size + t193.size ≤ 9223372036854775807 then (lexpriorref04_Join.l0 k1 l0 (x5_1 ++ t193) (wrap64 (x6_1 + 1))) else (none))) else (lexpriorref04_Join.l0 k1 l0 x5_1 (wrap64 (x6_1 + 1)))) else (some ((⟨#[]⟩ : ByteArray), 51, x6_1))) = some (r1, r2, r3) := H
     have A4 := Aside0.mk A40
     clear A40
     by_cases c5 : t194 = 0
     ·rw [if_pos c5] at H
      have c5b0 : (t194 == 0) = true := beq_iff_eq.mpr c5
      have c5b1 : (t194 != 0) = false := bne_eq_false_iff_eq.mpr c5
      clear c5
      by_cases c6 : (x5_1.size : Int) ≤ 65536
      ·rw [if_pos c6] at H
       have c6b0 : decide ((x5_1.size : Int) ≤ 65536) = true := decide_eq_true c6
       have c6b1 : decide (x5_1.size ≤ 65536) = true := decide_eq_true (by omega)
       clear c6
       by_cases c7 : x6_1 > 0
       ·rw [if_pos c7] at H
        have c7b0 : decide (0 < x6_1) = true := decide_eq_true c7
        clear c7
        by_cases c8 : x5_1.size + 1 ≤ 9223372036854775807
        ·rw [if_pos c8] at H
         have c8b0 := eq_true c8
         have c8b1 : decide (x5_1.size + 1 ≤ 9223372036854775807) = true := decide_eq_true c8
         try have c8b2 : (9223372036854775807 < x5_1.size + 1) = False := eq_false (Nat.not_lt.2 c8)
         by_cases c9 : (x5_1 ++ (⟨#[32]⟩ : ByteArray)).size + t193.size ≤ 9223372036854775807
         ·rw [if_pos c9] at H
          have c9b0 := eq_true c9
          have c9b1 : decide ((x5_1 ++ (⟨#[32]⟩ : ByteArray)).size + t193.size ≤ 9223372036854775807) = true := decide_eq_true c9
          try have c9b2 : (9223372036854775807 < (x5_1 ++ (⟨#[32]⟩ : ByteArray)).size + t193.size) = False := eq_false (Nat.not_lt.2 c9)
          have c9b3 : (9223372036854775807 < x5_1.size + 1 + t193.size) = False := eq_false (by have q := c9; simp only [ByteArray.size_append] at q; exact Nat.not_lt.2 q)
          have H' := Aside0.mk H
          clear H
          have p192 : 0 ≤ (x6_1 : Int) := of_decide_eq_true (by first | (with_reducible assumption) | assumption)
          have q192 : x6_1 < (l0.length : Int) := of_decide_eq_true (by first | (with_reducible assumption) | assumption)
          obtain ⟨ad192, e192, hx192_0, hx192_1, hx192_2⟩ := at_T76 HR0.out x6_1 p192 q192
          cases e192
          replace hx192_0 := (HB.out.cell (World.block_lt_of_cell? w _ hx192_0)).trans hx192_0
          replace hx192_1 := (HB.out.cell (World.block_lt_of_cell? w _ hx192_1)).trans hx192_1
          replace hx192_2 := (HB.out.cell (World.block_lt_of_cell? w _ hx192_2)).trans hx192_2
          replace p192 := eq_true p192
          replace q192 := eq_true q192
          go_wp2_with (first | ((with_reducible refine gate_callee (f := 29) rfl ?_); refine goesL_ (some 20) rfl rfl Try.func29 (by kernel_rfl) rfl #[.agg #[.int .i64 ((rd_T76 l0 x6_1).f0), .string ((rd_T76 l0 x6_1).f1), .int .i64 ((rd_T76 l0 x6_1).f2)]] rfl (by (try simp only [List.map_toArray, List.map_cons, List.map_nil]); first | done | rfl | (simp only [List.length_drop, List.length_take]; rfl)) ?_; (with_reducible refine (lexpriorref04_Text.calls k1 ((rd_T76 l0 x6_1).f0) ((rd_T76 l0 x6_1).f1) ((rd_T76 l0 x6_1).f2) t193 t194 _ A4.out).mono ?_); rintro e w10 ⟨rfl, hb⟩; refine ⟨_, rfl, ?_⟩; have n0_ := Aside0.mk (below_step (by repeat (first | (with_reducible first | exact HB.out | apply below_alloc | apply pw_below_drewN | apply below_drew1) | exact HB.out)) hb); clear HB; have HB := n0_; clear n0_; (try clear hb); (try clear hb2); (try clear hk); (try clear hi)))
          go_roundg k1
          case measure => have := HK1.out; omega
          case rel => exact ⟨((x5_1 ++ (⟨#[32]⟩ : ByteArray)) ++ t193), (wrap64 (x6_1 + 1)), (by first | rfl | (simp; done) | (simp [*]; done)), (by first | rfl | (simp; done) | (simp [*]; done)), H', ⟨by have := HK1.out; omega⟩, ⟨by repeat (first | (with_reducible first | exact HB.out | apply below_alloc | apply pw_below_drewN | apply below_drew1) | exact HB.out)⟩⟩
         ·rw [if_neg c9] at H
          exact absurd H (by simp)
        ·rw [if_neg c8] at H
         exact absurd H (by simp)
       ·rw [if_neg c7] at H
        have c7b0 : decide (0 < x6_1) = false := decide_eq_false c7
        clear c7
        by_cases c11 : x5_1.size + t193.size ≤ 9223372036854775807
        ·rw [if_pos c11] at H
         have c11b0 := eq_true c11
         have c11b1 : decide (x5_1.size + t193.size ≤ 9223372036854775807) = true := decide_eq_true c11
         try have c11b2 : (9223372036854775807 < x5_1.size + t193.size) = False := eq_false (Nat.not_lt.2 c11)
         have H' := Aside0.mk H
         clear H
         have p192 : 0 ≤ (x6_1 : Int) := of_decide_eq_true (by first | (with_reducible assumption) | assumption)
         have q192 : x6_1 < (l0.length : Int) := of_decide_eq_true (by first | (with_reducible assumption) | assumption)
         obtain ⟨ad192, e192, hx192_0, hx192_1, hx192_2⟩ := at_T76 HR0.out x6_1 p192 q192
         cases e192
         replace hx192_0 := (HB.out.cell (World.block_lt_of_cell? w _ hx192_0)).trans hx192_0
         replace hx192_1 := (HB.out.cell (World.block_lt_of_cell? w _ hx192_1)).trans hx192_1
         replace hx192_2 := (HB.out.cell (World.block_lt_of_cell? w _ hx192_2)).trans hx192_2
         replace p192 := eq_true p192
         replace q192 := eq_true q192
         go_wp2_with (first | ((with_reducible refine gate_callee (f := 29) rfl ?_); refine goesL_ (some 20) rfl rfl Try.func29 (by kernel_rfl) rfl #[.agg #[.int .i64 ((rd_T76 l0 x6_1).f0), .string ((rd_T76 l0 x6_1).f1), .int .i64 ((rd_T76 l0 x6_1).f2)]] rfl (by (try simp only [List.map_toArray, List.map_cons, List.map_nil]); first | done | rfl | (simp only [List.length_drop, List.length_take]; rfl)) ?_; (with_reducible refine (lexpriorref04_Text.calls k1 ((rd_T76 l0 x6_1).f0) ((rd_T76 l0 x6_1).f1) ((rd_T76 l0 x6_1).f2) t193 t194 _ A4.out).mono ?_); rintro e w12 ⟨rfl, hb⟩; refine ⟨_, rfl, ?_⟩; have n0_ := Aside0.mk (below_step (by repeat (first | (with_reducible first | exact HB.out | apply below_alloc | apply pw_below_drewN | apply below_drew1) | exact HB.out)) hb); clear HB; have HB := n0_; clear n0_; (try clear hb); (try clear hb2); (try clear hk); (try clear hi)))
         go_roundg k1
         case measure => have := HK1.out; omega
         case rel => exact ⟨(x5_1 ++ t193), (wrap64 (x6_1 + 1)), (by first | rfl | (simp; done) | (simp [*]; done)), (by first | rfl | (simp; done) | (simp [*]; done)), H', ⟨by have := HK1.out; omega⟩, ⟨by repeat (first | (with_reducible first | exact HB.out | apply below_alloc | apply pw_below_drewN | apply below_drew1) | exact HB.out)⟩⟩
        ·rw [if_neg c11] at H
         exact absurd H (by simp)
      ·rw [if_neg c6] at H
       have c6b0 : decide ((x5_1.size : Int) ≤ 65536) = false := decide_eq_false c6
       have c6b1 : decide (x5_1.size ≤ 65536) = false := decide_eq_false (by omega)
       clear c6
       have H' := Aside0.mk H
       clear H
       have p192 : 0 ≤ (x6_1 : Int) := of_decide_eq_true (by first | (with_reducible assumption) | assumption)
       have q192 : x6_1 < (l0.length : Int) := of_decide_eq_true (by first | (with_reducible assumption) | assumption)
       obtain ⟨ad192, e192, hx192_0, hx192_1, hx192_2⟩ := at_T76 HR0.out x6_1 p192 q192
       cases e192
       replace hx192_0 := (HB.out.cell (World.block_lt_of_cell? w _ hx192_0)).trans hx192_0
       replace hx192_1 := (HB.out.cell (World.block_lt_of_cell? w _ hx192_1)).trans hx192_1
       replace hx192_2 := (HB.out.cell (World.block_lt_of_cell? w _ hx192_2)).trans hx192_2
       replace p192 := eq_true p192
       replace q192 := eq_true q192
       go_wp2_with (first | ((with_reducible refine gate_callee (f := 29) rfl ?_); refine goesL_ (some 20) rfl rfl Try.func29 (by kernel_rfl) rfl #[.agg #[.int .i64 ((rd_T76 l0 x6_1).f0), .string ((rd_T76 l0 x6_1).f1), .int .i64 ((rd_T76 l0 x6_1).f2)]] rfl (by (try simp only [List.map_toArray, List.map_cons, List.map_nil]); first | done | rfl | (simp only [List.length_drop, List.length_take]; rfl)) ?_; (with_reducible refine (lexpriorref04_Text.calls k1 ((rd_T76 l0 x6_1).f0) ((rd_T76 l0 x6_1).f1) ((rd_T76 l0 x6_1).f2) t193 t194 _ A4.out).mono ?_); rintro e w13 ⟨rfl, hb⟩; refine ⟨_, rfl, ?_⟩; have n0_ := Aside0.mk (below_step (by repeat (first | (with_reducible first | exact HB.out | apply below_alloc | apply pw_below_drewN | apply below_drew1) | exact HB.out)) hb); clear HB; have HB := n0_; clear n0_; (try clear hb); (try clear hb2); (try clear hk); (try clear hi)))
       go_roundg k1
       case measure => have := HK1.out; omega
       case rel => exact ⟨(x5_1), (wrap64 (x6_1 + 1)), (by first | rfl | (simp; done) | (simp [*]; done)), (by first | rfl | (simp; done) | (simp [*]; done)), H', ⟨by have := HK1.out; omega⟩, ⟨by repeat (first | (with_reducible first | exact HB.out | apply below_alloc | apply pw_below_drewN | apply below_drew1) | exact HB.out)⟩⟩
     ·rw [if_neg c5] at H
      have c5b0 : (t194 == 0) = false := beq_eq_false_iff_ne.mpr c5
      have c5b1 : (t194 != 0) = true := bne_iff_ne.mpr c5
      simp only [Option.some.injEq, Prod.mk.injEq] at H
      obtain ⟨rfl, rfl, rfl⟩ := H
      have p192 : 0 ≤ (x6_1 : Int) := of_decide_eq_true (by first | (with_reducible assumption) | assumption)
      have q192 : x6_1 < (l0.length : Int) := of_decide_eq_true (by first | (with_reducible assumption) | assumption)
      obtain ⟨ad192, e192, hx192_0, hx192_1, hx192_2⟩ := at_T76 HR0.out x6_1 p192 q192
      cases e192
      replace hx192_0 := (HB.out.cell (World.block_lt_of_cell? w _ hx192_0)).trans hx192_0
      replace hx192_1 := (HB.out.cell (World.block_lt_of_cell? w _ hx192_1)).trans hx192_1
      replace hx192_2 := (HB.out.cell (World.block_lt_of_cell? w _ hx192_2)).trans hx192_2
      replace p192 := eq_true p192
      replace q192 := eq_true q192
      go_wp2_with (first | ((with_reducible refine gate_callee (f := 29) rfl ?_); refine goesL_ (some 20) rfl rfl Try.func29 (by kernel_rfl) rfl #[.agg #[.int .i64 ((rd_T76 l0 x6_1).f0), .string ((rd_T76 l0 x6_1).f1), .int .i64 ((rd_T76 l0 x6_1).f2)]] rfl (by (try simp only [List.map_toArray, List.map_cons, List.map_nil]); first | done | rfl | (simp only [List.length_drop, List.length_take]; rfl)) ?_; (with_reducible refine (lexpriorref04_Text.calls k1 ((rd_T76 l0 x6_1).f0) ((rd_T76 l0 x6_1).f1) ((rd_T76 l0 x6_1).f2) t193 t194 _ A4.out).mono ?_); rintro e w14 ⟨rfl, hb⟩; refine ⟨_, rfl, ?_⟩; have n0_ := Aside0.mk (below_step (by repeat (first | (with_reducible first | exact HB.out | apply below_alloc | apply pw_below_drewN | apply below_drew1) | exact HB.out)) hb); clear HB; have HB := n0_; clear n0_; (try clear hb); (try clear hb2); (try clear hk); (try clear hi)))
      go_ret3
      exact ⟨by first | rfl | (simp [errW_none, errW_some] <;> rfl) | (simp [*, errW_none, errW_some] <;> rfl), by repeat (first | (with_reducible first | exact HB.out | apply below_alloc | apply pw_below_drewN | apply below_drew1) | exact HB.out)⟩
    ·rw [if_neg c3] at H
     exact absurd H (by simp)
   ·rw [if_neg c2] at H
    have c2b0 : decide (x6_1 < (l0.length : Int)) = false := decide_eq_false c2
    clear c2
    by_cases c15 : (x5_1.size : Int) > 65536
    ·rw [if_pos c15] at H
     have c15b0 : decide (65536 < (x5_1.size : Int)) = true := decide_eq_true c15
     have c15b1 : decide (65536 < x5_1.size) = true := decide_eq_true (by omega)
     clear c15
     simp only [Option.some.injEq, Prod.mk.injEq] at H
     obtain ⟨rfl, rfl, rfl⟩ := H
     go_wp2
     go_ret3
     exact ⟨by first | rfl | (simp [errW_none, errW_some] <;> rfl) | (simp [*, errW_none, errW_some] <;> rfl), by repeat (first | (with_reducible first | exact HB.out | apply below_alloc | apply pw_below_drewN | apply below_drew1) | exact HB.out)⟩
    ·rw [if_neg c15] at H
     have c15b0 : decide (65536 < (x5_1.size : Int)) = false := decide_eq_false c15
     have c15b1 : decide (65536 < x5_1.size) = false := decide_eq_false (by omega)
     clear c15
     simp only [Option.some.injEq, Prod.mk.injEq] at H
     obtain ⟨rfl, rfl, rfl⟩ := H
     go_wp2
     go_ret3
     exact ⟨by first | rfl | (simp [errW_none, errW_some] <;> rfl) | (simp [*, errW_none, errW_some] <;> rfl), by repeat (first | (with_reducible first | exact HB.out | apply below_alloc | apply pw_below_drewN | apply below_drew1) | exact HB.out)⟩

/-! ### lexpriorlaw04_LexerJoins: function 8 -/
mutual
def lexpriorlaw04_LexerJoins.j0 : Nat → List (S76) → Bool → Option (Bool)
 | 0, _, _ => none
 | k + 1, x0, x48 => if x48 = true then (some false) else (lexpriorlaw04_LexerJoins.l0 k x0 0)
def lexpriorlaw04_LexerJoins.l0 : Nat → List (S76) → Int → Option (Bool)
 | 0, _, _ => none
 | k + 1, x0, x10 => if x10 < (x0.length : Int) then (lexpriorlaw04_LexerJoins.j2 k x0 x10 (decide (x10 < 100))) else (lexpriorlaw04_LexerJoins.j2 k x0 x10 false)
def lexpriorlaw04_LexerJoins.j2 : Nat → List (S76) → Int → Bool → Option (Bool)
 | 0, _, _, _ => none
 | k + 1, x0, x10, x56 => if x56 = true then (if 0 ≤ x10 then (if x10 < (x0.length : Int) then ((lexer_Text.f k ((rd_T76 x0 x10).f0) ((rd_T76 x0 x10).f1) ((rd_T76 x0 x10).f2)).bind fun bt208 => ((lexpriorref04_Text.f k ((rd_T76 x0 x10).f0) ((rd_T76 x0 x10).f1) ((rd_T76 x0 x10).f2)).bind fun bt211 => (if bt208.1.toList = bt211.1.toList then ((lexpriorlaw04_num.f bt208.2).bind fun t213 => (if t213 = bt211.2 then (lexpriorlaw04_LexerJoins.l0 k x0 (wrap64 (x10 + 1))) else (some false))) else (some false)))) else (none)) else (none)) else ((lexpriorlaw04_works.f).bind fun t206 => (some t206))
end
def lexpriorlaw04_LexerJoins.f (k : Nat) (l0 : List (S76)) : Option (Bool) := (lexpriorplain_CopyTokens.f k l0).bind fun t195 => ((lexer_Join.f k t195).bind fun bt198 => ((lexpriorref04_Join.f k l0).bind fun bt201 => (if bt198.1.toList = bt201.1.toList then ((lexpriorlaw04_num.f bt198.2.1).bind fun t204 => (if t204 = bt201.2.1 then (if bt198.2.2 = bt201.2.2 then ((lexpriorplain_SameTokens.f k t195 l0).bind fun t205 => (lexpriorlaw04_LexerJoins.j0 k l0 (!t205))) else (lexpriorlaw04_LexerJoins.j0 k l0 true)) else (lexpriorlaw04_LexerJoins.j0 k l0 true))) else (lexpriorlaw04_LexerJoins.j0 k l0 true))))
theorem lexpriorlaw04_LexerJoins.mono_l : ∀ k, (∀ y0 y1, LeO (lexpriorlaw04_LexerJoins.j0 k y0 y1) (lexpriorlaw04_LexerJoins.j0 (k + 1) y0 y1)) ∧ (∀ y0 y1, LeO (lexpriorlaw04_LexerJoins.l0 k y0 y1) (lexpriorlaw04_LexerJoins.l0 (k + 1) y0 y1)) ∧ (∀ y0 y1 y2, LeO (lexpriorlaw04_LexerJoins.j2 k y0 y1 y2) (lexpriorlaw04_LexerJoins.j2 (k + 1) y0 y1 y2))
 | 0 => ⟨fun _ _ r h => by simp [lexpriorlaw04_LexerJoins.j0] at h, fun _ _ r h => by simp [lexpriorlaw04_LexerJoins.l0] at h, fun _ _ _ r h => by simp [lexpriorlaw04_LexerJoins.j2] at h⟩
 | k + 1 => by
  obtain ⟨ih0, ih1, ih2⟩ := lexpriorlaw04_LexerJoins.mono_l k
  refine ⟨?_, ?_, ?_⟩
  ·intro y0 y1
   unfold lexpriorlaw04_LexerJoins.j0
   repeat' first
   | (with_reducible exact ih0 _ _)
   | (with_reducible exact ih1 _ _)
   | (with_reducible exact ih2 _ _ _)
   | (with_reducible exact lexer_Join.mono _ _)
   | (with_reducible exact lexer_Text.mono _ _ _ _)
   | (with_reducible exact lexpriorplain_CopyTokens.mono _ _)
   | (with_reducible exact lexpriorplain_SameTokens.mono _ _ _)
   | (with_reducible exact lexpriorref04_Join.mono _ _)
   | (with_reducible exact lexpriorref04_Text.mono _ _ _ _)
   | (with_reducible exact LeO.refl _)
   | (with_reducible exact LeO.none _)
   | (with_reducible refine LeO.ite ?_ ?_)
   | (with_reducible refine LeO.bind ?_ (fun _ => ?_))
   | exact ih0 _ _
   | exact ih1 _ _
   | exact ih2 _ _ _
   | exact lexer_Join.mono _ _
   | exact lexer_Text.mono _ _ _ _
   | exact lexpriorplain_CopyTokens.mono _ _
   | exact lexpriorplain_SameTokens.mono _ _ _
   | exact lexpriorref04_Join.mono _ _
   | exact lexpriorref04_Text.mono _ _ _ _
   | exact LeO.none _
   | refine LeO.ite ?_ ?_
   | refine LeO.bind ?_ (fun _ => ?_)
  ·intro y0 y1
   unfold lexpriorlaw04_LexerJoins.l0
   repeat' first
   | (with_reducible exact ih0 _ _)
   | (with_reducible exact ih1 _ _)
   | (with_reducible exact ih2 _ _ _)
   | (with_reducible exact lexer_Join.mono _ _)
   | (with_reducible exact lexer_Text.mono _ _ _ _)
   | (with_reducible exact lexpriorplain_CopyTokens.mono _ _)
   | (with_reducible exact lexpriorplain_SameTokens.mono _ _ _)
   | (with_reducible exact lexpriorref04_Join.mono _ _)
   | (with_reducible exact lexpriorref04_Text.mono _ _ _ _)
   | (with_reducible exact LeO.refl _)
   | (with_reducible exact LeO.none _)
   | (with_reducible refine LeO.ite ?_ ?_)
   | (with_reducible refine LeO.bind ?_ (fun _ => ?_))
   | exact ih0 _ _
   | exact ih1 _ _
   | exact ih2 _ _ _
   | exact lexer_Join.mono _ _
   | exact lexer_Text.mono _ _ _ _
   | exact lexpriorplain_CopyTokens.mono _ _
   | exact lexpriorplain_SameTokens.mono _ _ _
   | exact lexpriorref04_Join.mono _ _
   | exact lexpriorref04_Text.mono _ _ _ _
   | exact LeO.none _
   | refine LeO.ite ?_ ?_
   | refine LeO.bind ?_ (fun _ => ?_)
  ·intro y0 y1 y2
   unfold lexpriorlaw04_LexerJoins.j2
   repeat' first
   | (with_reducible exact ih0 _ _)
   | (with_reducible exact ih1 _ _)
   | (with_reducible exact ih2 _ _ _)
   | (with_reducible exact lexer_Join.mono _ _)
   | (with_reducible exact lexer_Text.mono _ _ _ _)
   | (with_reducible exact lexpriorplain_CopyTokens.mono _ _)
   | (with_reducible exact lexpriorplain_SameTokens.mono _ _ _)
   | (with_reducible exact lexpriorref04_Join.mono _ _)
   | (with_reducible exact lexpriorref04_Text.mono _ _ _ _)
   | (with_reducible exact LeO.refl _)
   | (with_reducible exact LeO.none _)
   | (with_reducible refine LeO.ite ?_ ?_)
   | (with_reducible refine LeO.bind ?_ (fun _ => ?_))
   | exact ih0 _ _
   | exact ih1 _ _
   | exact ih2 _ _ _
   | exact lexer_Join.mono _ _
   | exact lexer_Text.mono _ _ _ _
   | exact lexpriorplain_CopyTokens.mono _ _
   | exact lexpriorplain_SameTokens.mono _ _ _
   | exact lexpriorref04_Join.mono _ _
   | exact lexpriorref04_Text.mono _ _ _ _
   | exact LeO.none _
   | refine LeO.ite ?_ ?_
   | refine LeO.bind ?_ (fun _ => ?_)
theorem lexpriorlaw04_LexerJoins.mono : ∀ a0 k, LeO (lexpriorlaw04_LexerJoins.f k a0) (lexpriorlaw04_LexerJoins.f (k + 1) a0) := by
 intro a0 k
 obtain ⟨ih0, ih1, ih2⟩ := lexpriorlaw04_LexerJoins.mono_l k
 unfold lexpriorlaw04_LexerJoins.f
 repeat' first
   | (with_reducible exact ih0 _ _)
   | (with_reducible exact ih1 _ _)
   | (with_reducible exact ih2 _ _ _)
   | (with_reducible exact lexer_Join.mono _ _)
   | (with_reducible exact lexer_Text.mono _ _ _ _)
   | (with_reducible exact lexpriorplain_CopyTokens.mono _ _)
   | (with_reducible exact lexpriorplain_SameTokens.mono _ _ _)
   | (with_reducible exact lexpriorref04_Join.mono _ _)
   | (with_reducible exact lexpriorref04_Text.mono _ _ _ _)
   | (with_reducible exact LeO.refl _)
   | (with_reducible exact LeO.none _)
   | (with_reducible refine LeO.ite ?_ ?_)
   | (with_reducible refine LeO.bind ?_ (fun _ => ?_))
   | exact ih0 _ _
   | exact ih1 _ _
   | exact ih2 _ _ _
   | exact lexer_Join.mono _ _
   | exact lexer_Text.mono _ _ _ _
   | exact lexpriorplain_CopyTokens.mono _ _
   | exact lexpriorplain_SameTokens.mono _ _ _
   | exact lexpriorref04_Join.mono _ _
   | exact lexpriorref04_Text.mono _ _ _ _
   | exact LeO.none _
   | refine LeO.ite ?_ ?_
   | refine LeO.bind ?_ (fun _ => ?_)
set_option maxHeartbeats 8000000 in
set_option maxRecDepth 100000 in
theorem lexpriorlaw04_LexerJoins.calls (k : Nat) (A0 : Option Addr) (c0 : Nat) (l0 : List (S76)) (r : Bool) (w : World) (hr0 : Kd.C k76 w A0 l0.length l0) (hc0 : l0.length ≤ c0) (h : lexpriorlaw04_LexerJoins.f k l0 = some r) :
  Calls Try.prog 8 #[.slice A0 l0.length c0] w fun e w' => e = .returned (.bool r) ∧ Below w.heap.size w w' := by
 have hu76 := Try.underlying76
 have HR0 := Aside0.mk hr0
 have HC0 := Aside0.mk hc0
 clear hr0 hc0
 have HB := Aside0.mk (Below.refl w.heap.size w)
 have H : ((lexpriorplain_CopyTokens.f k l0).bind fun t195 => ((lexer_Join.f k t195).bind fun bt198 => ((lexpriorref04_Join.f k l0).bind fun bt201 => (if bt198.1.toList = bt201.1.toList then ((lexpriorlaw04_num.f bt198.2.1).bind fun t204 => (if t204 = bt201.2.1 then (if bt198.2.2 = bt201.2.2 then ((lexpriorplain_SameTokens.f k t195 l0).bind fun t205 => (lexpriorlaw04_LexerJoins.j0 k l0 (!t205))) else (lexpriorlaw04_LexerJoins.j0 k l0 true)) else (lexpriorlaw04_LexerJoins.j0 k l0 true))) else (lexpriorlaw04_LexerJoins.j0 k l0 true))))) = some r := h
 clear h
 replace H := Option.bind_eq_some_iff.mp H
 obtain ⟨t195, A20, H⟩ := H
 replace H : ((lexer_Join.f k t195).bind fun bt198 => ((lexpriorref04_Join.f k l0).bind fun bt201 => (if bt198.1.toList = bt201.1.toList then ((lexpriorlaw04_num.f bt198.2.1).bind fun t204 => (if t204 = bt201.2.1 then (if bt198.2.2 = bt201.2.2 then ((lexpriorplain_SameTokens.f k t195 l0).bind fun t205 => (lexpriorlaw04_LexerJoins.j0 k l0 (!t205))) else (lexpriorlaw04_LexerJoins.j0 k l0 true)) else (lexpriorlaw04_LexerJoins.j0 k l0 true))) else (lexpriorlaw04_LexerJoins.j0 k l0 true)))) = some r := H
 have A2 := Aside0.mk A20
 clear A20
 replace H := Option.bind_eq_some_iff.mp H
 obtain ⟨⟨t198, t199, t200⟩, A30, H⟩ := H
 replace H : ((lexpriorref04_Join.f k l0).bind fun bt201 => (if t198.toList = bt201.1.toList then ((lexpriorlaw04_num.f t199).bind fun t204 => (if t204 = bt201.2.1 then (if t200 = bt201.2.2 then ((lexpriorplain_SameTokens.f k t195 l0).bind fun t205 => (lexpriorlaw04_LexerJoins.j0 k l0 (!t205))) else (lexpriorlaw04_LexerJoins.j0 k l0 true)) else (lexpriorlaw04_LexerJoins.j0 k l0 true))) else (lexpriorlaw04_LexerJoins.j0 k l0 true))) = some r := H
 have A3 := Aside0.mk A30
 clear A30
 replace H := Option.bind_eq_some_iff.mp H
 obtain ⟨⟨t201, t202, t203⟩, A40, H⟩ := H
 replace H : (if t198.toList = t201.toList then ((lexpriorlaw04_num.f t199).bind fun t204 => (if t204 = t202 then (if t200 = t203 then ((lexpriorplain_SameTokens.f k t195 l0).bind fun t205 => (lexpriorlaw04_LexerJoins.j0 k l0 (!t205))) else (lexpriorlaw04_LexerJoins.j0 k l0 true)) else (lexpriorlaw04_LexerJoins.j0 k l0 true))) else (lexpriorlaw04_LexerJoins.j0 k l0 true)) = some r := H
 have A4 := Aside0.mk A40
 clear A40
 have HC5 := Aside0.mk H
 clear H
 go_enter Try.func8, Try.ntmps8
 go_upto_region 4 with (first | ((with_reducible refine gate_callee (f := 26) rfl ?_); refine goesL_ (some 16) rfl rfl Try.func26 (by kernel_rfl) rfl #[.slice A0 l0.length c0] rfl (by (try simp only [List.map_toArray, List.map_cons, List.map_nil]); first | done | rfl | (simp only [List.length_drop, List.length_take]; rfl)) ?_; (with_reducible refine (lexpriorplain_CopyTokens.calls k _ _ l0 t195 _ ?side1 ?side2 A2.out).mono ?_); (case side1 => repeat (first | exact HR0.out | (with_reducible refine Kd.C_alloc ?_ _) | (with_reducible refine Kd.C_drewN ?_ _) | (with_reducible refine Kd.C_drew ?_))); (case side2 => exact HC0.out); rintro e w6 ⟨v196, rfl, ho0, hb⟩; refine ⟨_, rfl, ?_⟩; have n0_ := Aside0.mk (Kd.R_lower ho0 (below_size (by repeat (first | (with_reducible first | exact HB.out | apply below_alloc | apply pw_below_drewN | apply below_drew1) | exact HB.out)))); have n1_ := Aside0.mk (below_step (by repeat (first | (with_reducible first | exact HB.out | apply below_alloc | apply pw_below_drewN | apply below_drew1) | exact HB.out)) hb); clear HB; have HO197 := n0_; have HB := n1_; clear n0_ n1_; (try clear hb); (try clear hb2); (try clear hk); (try clear hi); (try clear ho0); obtain ⟨Ao7, co7, eo7⟩ := Kd.R_slice HO197.out; subst eo7) | ((with_reducible refine gate_callee (f := 27) rfl ?_); refine goesL_ (some 19) rfl rfl Try.func27 (by kernel_rfl) rfl #[.slice Ao7 t195.length co7] rfl (by (try simp only [List.map_toArray, List.map_cons, List.map_nil]); first | done | rfl | (simp only [List.length_drop, List.length_take]; rfl)) ?_; (with_reducible refine (lexer_Join.calls k _ _ t195 t198 t199 t200 _ ?side1 ?side2 A3.out).mono ?_); (case side1 => repeat (first | exact (Kd.R_reads' HO197.out).2.2 | (with_reducible refine Kd.C_alloc ?_ _) | (with_reducible refine Kd.C_drewN ?_ _) | (with_reducible refine Kd.C_drew ?_))); (case side2 => exact (Kd.R_reads' HO197.out).2.1); rintro e w8 ⟨rfl, hb⟩; refine ⟨_, rfl, ?_⟩; have n0_ := Aside0.mk (Kd.R_below (by (with_reducible repeat (first | apply Kd.R_alloc | apply Kd.R_drewN | apply Kd.R_drew)); exact HO197.out) hb); have n1_ := Aside0.mk (below_step (by repeat (first | (with_reducible first | exact HB.out | apply below_alloc | apply pw_below_drewN | apply below_drew1) | exact HB.out)) hb); clear HO197; clear HB; have HO197 := n0_; have HB := n1_; clear n0_ n1_; (try clear hb); (try clear hb2); (try clear hk); (try clear hi)) | ((with_reducible refine gate_callee (f := 28) rfl ?_); refine goesL_ (some 25) rfl rfl Try.func28 (by kernel_rfl) rfl #[.slice A0 l0.length c0] rfl (by (try simp only [List.map_toArray, List.map_cons, List.map_nil]); first | done | rfl | (simp only [List.length_drop, List.length_take]; rfl)) ?_; (with_reducible refine (lexpriorref04_Join.calls k _ _ l0 t201 t202 t203 _ ?side1 ?side2 A4.out).mono ?_); (case side1 => repeat (first | exact (Kd.C_below HR0.out HB.out) | (with_reducible refine Kd.C_alloc ?_ _) | (with_reducible refine Kd.C_drewN ?_ _) | (with_reducible refine Kd.C_drew ?_))); (case side2 => exact HC0.out); rintro e w9 ⟨rfl, hb⟩; refine ⟨_, rfl, ?_⟩; have n0_ := Aside0.mk (Kd.R_below (by (with_reducible repeat (first | apply Kd.R_alloc | apply Kd.R_drewN | apply Kd.R_drew)); exact HO197.out) hb); have n1_ := Aside0.mk (below_step (by repeat (first | (with_reducible first | exact HB.out | apply below_alloc | apply pw_below_drewN | apply below_drew1) | exact HB.out)) hb); clear HO197; clear HB; have HO197 := n0_; have HB := n1_; clear n0_ n1_; (try clear hb); (try clear hb2); (try clear hk); (try clear hi)))
 (try simp only [Act.put, List.setIfInBounds_toArray, List.set_cons_zero, List.set_cons_succ])
 go_cut [48] (fun v48 wc => ∃ (kq : Nat) (x48_4 : Bool), v48 = .bool x48_4 ∧ Aside0 (lexpriorlaw04_LexerJoins.j0 kq l0 x48_4 = some r) ∧ Aside0 (kq ≤ k) ∧ Aside0 (Below w.heap.size w wc))
 case first =>
  have H := HC5.out
  clear HC5
  by_cases c10 : t198.toList = t201.toList
  ·rw [if_pos c10] at H
   have c10b0 : (t198.toList == t201.toList) = true := beq_iff_eq.mpr c10
   have c10b1 : (t198.toList != t201.toList) = false := bne_eq_false_iff_eq.mpr c10
   clear c10
   (first | rw [c10b0] | (simp only [i64_w, i32_w]; rw [c10b0]) | skip)
   replace H := Option.bind_eq_some_iff.mp H
   obtain ⟨t204, A110, H⟩ := H
   replace H : (if t204 = t202 then (if t200 = t203 then ((lexpriorplain_SameTokens.f k t195 l0).bind fun t205 => (lexpriorlaw04_LexerJoins.j0 k l0 (!t205))) else (lexpriorlaw04_LexerJoins.j0 k l0 true)) else (lexpriorlaw04_LexerJoins.j0 k l0 true)) = some r := H
   have A11 := Aside0.mk A110
   clear A110
   by_cases c12 : t204 = t202
   ·rw [if_pos c12] at H
    have c12b0 : (t204 == t202) = true := beq_iff_eq.mpr c12
    have c12b1 : (t204 != t202) = false := bne_eq_false_iff_eq.mpr c12
    clear c12
    by_cases c13 : t200 = t203
    ·rw [if_pos c13] at H
     have c13b0 : (t200 == t203) = true := beq_iff_eq.mpr c13
     have c13b1 : (t200 != t203) = false := bne_eq_false_iff_eq.mpr c13
     clear c13
     replace H := Option.bind_eq_some_iff.mp H
     obtain ⟨t205, A140, H⟩ := H
     replace H : (lexpriorlaw04_LexerJoins.j0 k l0 (!t205)) = some r := H
     have A14 := Aside0.mk A140
     clear A140
     have H' := Aside0.mk H
     clear H
     go_wp2_with (first | (go_at_call 12; (with_reducible refine (lexpriorlaw04_num.calls t199 t204 _ A11.out).mono ?_); rintro e w' ⟨rfl, ⟨nd, rfl⟩⟩) | (go_at_call 18; (with_reducible refine (lexpriorplain_SameTokens.calls k _ _ t195 _ _ l0 t205 _ ?side1 ?side2 ?side3 ?side4 A14.out).mono ?_); (case side1 => repeat (first | exact (Kd.R_reads' HO197.out).2.2 | (with_reducible refine Kd.C_alloc ?_ _) | (with_reducible refine Kd.C_drewN ?_ _) | (with_reducible refine Kd.C_drew ?_))); (case side2 => exact (Kd.R_reads' HO197.out).2.1); (case side3 => repeat (first | exact (Kd.C_below HR0.out (by repeat (first | (with_reducible first | exact HB.out | apply below_alloc | apply pw_below_drewN | apply below_drew1) | exact HB.out))) | (with_reducible refine Kd.C_alloc ?_ _) | (with_reducible refine Kd.C_drewN ?_ _) | (with_reducible refine Kd.C_drew ?_))); (case side4 => exact HC0.out); rintro e w' ⟨rfl, ⟨nd, rfl⟩⟩))
     go_meet
     case rel => exact ⟨_, (!t205), (by first | rfl | (simp; done) | (simp [*]; done)), H', ⟨by first | omega | exact Nat.le_refl _⟩, ⟨by repeat (first | (with_reducible first | exact HB.out | apply below_alloc | apply pw_below_drewN | apply below_drew1) | exact HB.out)⟩⟩
    ·rw [if_neg c13] at H
     have c13b0 : (t200 == t203) = false := beq_eq_false_iff_ne.mpr c13
     have c13b1 : (t200 != t203) = true := bne_iff_ne.mpr c13
     have H' := Aside0.mk H
     clear H
     go_wp2_with (first | (go_at_call 12; (with_reducible refine (lexpriorlaw04_num.calls t199 t204 _ A11.out).mono ?_); rintro e w' ⟨rfl, ⟨nd, rfl⟩⟩))
     go_meet
     case rel => exact ⟨_, (true), (by first | rfl | (simp; done) | (simp [*]; done)), H', ⟨by first | omega | exact Nat.le_refl _⟩, ⟨by repeat (first | (with_reducible first | exact HB.out | apply below_alloc | apply pw_below_drewN | apply below_drew1) | exact HB.out)⟩⟩
   ·rw [if_neg c12] at H
    have c12b0 : (t204 == t202) = false := beq_eq_false_iff_ne.mpr c12
    have c12b1 : (t204 != t202) = true := bne_iff_ne.mpr c12
    have H' := Aside0.mk H
    clear H
    go_wp2_with (first | (go_at_call 12; (with_reducible refine (lexpriorlaw04_num.calls t199 t204 _ A11.out).mono ?_); rintro e w' ⟨rfl, ⟨nd, rfl⟩⟩))
    go_meet
    case rel => exact ⟨_, (true), (by first | rfl | (simp; done) | (simp [*]; done)), H', ⟨by first | omega | exact Nat.le_refl _⟩, ⟨by repeat (first | (with_reducible first | exact HB.out | apply below_alloc | apply pw_below_drewN | apply below_drew1) | exact HB.out)⟩⟩
  ·rw [if_neg c10] at H
   have c10b0 : (t198.toList == t201.toList) = false := beq_eq_false_iff_ne.mpr c10
   have c10b1 : (t198.toList != t201.toList) = true := bne_iff_ne.mpr c10
   (first | rw [c10b0] | (simp only [i64_w, i32_w]; rw [c10b0]) | skip)
   have H' := Aside0.mk H
   clear H
   go_wp2
   go_meet
   case rel => exact ⟨_, (true), (by first | rfl | (simp; done) | (simp [*]; done)), H', ⟨by first | omega | exact Nat.le_refl _⟩, ⟨by repeat (first | (with_reducible first | exact HB.out | apply below_alloc | apply pw_below_drewN | apply below_drew1) | exact HB.out)⟩⟩
 case rest =>
  clear HC5
  obtain ⟨kq, x48_4, rfl, HA, HJ4, HB⟩ := hcut
  cases kq with
  | zero => exact absurd HA.out (by simp [lexpriorlaw04_LexerJoins.j0])
  | succ kj4 =>
   have H := HA.out
   clear HA
   simp only [lexpriorlaw04_LexerJoins.j0] at H
   by_cases c15 : x48_4 = true
   ·subst c15
    have H1 : (some false) = some r := by rw [if_pos rfl] at H; exact H
    clear H
    have H := H1
    clear H1
    obtain rfl := Option.some.inj H
    go_wp2
    go_ret
    exact ⟨by first | rfl | (simp [errW_none, errW_some] <;> rfl) | (simp [*, errW_none, errW_some] <;> rfl), by repeat (first | (with_reducible first | exact HB.out | apply below_alloc | apply pw_below_drewN | apply below_drew1) | exact HB.out)⟩
   ·replace c15 := Bool.eq_false_iff.mpr c15
    subst c15
    have H1 : (lexpriorlaw04_LexerJoins.l0 kj4 l0 0) = some r := by rw [if_neg (show ¬ (false = true) by decide)] at H; exact H
    clear H
    have H := H1
    clear H1
    have H' := Aside0.mk H
    clear H
    go_wp2
    go_loopg [10] kj4 (fun kq v10 w' => ∃ (x10_2 : Int), v10 = .int .i64 x10_2 ∧ Aside0 (lexpriorlaw04_LexerJoins.l0 kq l0 x10_2 = some r) ∧ Aside0 (kq ≤ kj4) ∧ Aside0 (Below w.heap.size w w'))
    case atStart => exact ⟨(0), (by first | rfl | (simp; done) | (simp [*]; done)), H', ⟨Nat.le_refl _⟩, ⟨by repeat (first | (with_reducible first | exact HB.out | apply below_alloc | apply pw_below_drewN | apply below_drew1) | exact HB.out)⟩⟩
    case round =>
     clear H'
     obtain ⟨x10_2, rfl, HA, HK2, HB⟩ := hrel
     cases gk with
     | zero => exact absurd HA.out (by simp [lexpriorlaw04_LexerJoins.l0])
     | succ k2 =>
      have H := HA.out
      clear HA
      simp only [lexpriorlaw04_LexerJoins.l0] at H
      have HC16 := Aside0.mk H
      clear H
      go_upto_region 7 with (fail)
      go_cut [56] (fun v56 wc => ∃ (kq : Nat) (x56_15 : Bool), v56 = .bool x56_15 ∧ Aside0 (lexpriorlaw04_LexerJoins.j2 kq l0 x10_2 x56_15 = some r) ∧ Aside0 (kq ≤ k2) ∧ Aside0 (Below w.heap.size w wc))
      case first =>
       have H := HC16.out
       clear HC16
       by_cases c17 : x10_2 < (l0.length : Int)
       ·rw [if_pos c17] at H
        have c17b0 : decide (x10_2 < (l0.length : Int)) = true := decide_eq_true c17
        clear c17
        (first | rw [c17b0] | (simp only [i64_w, i32_w]; rw [c17b0]) | skip)
        have H' := Aside0.mk H
        clear H
        go_wp2
        go_meet
        case rel => exact ⟨_, (decide (x10_2 < 100)), (by first | rfl | (simp; done) | (simp [*]; done)), H', ⟨by have := HJ4.out; have := HK2.out; first | omega | exact Nat.le_refl _⟩, ⟨by repeat (first | (with_reducible first | exact HB.out | apply below_alloc | apply pw_below_drewN | apply below_drew1) | exact HB.out)⟩⟩
       ·rw [if_neg c17] at H
        have c17b0 : decide (x10_2 < (l0.length : Int)) = false := decide_eq_false c17
        clear c17
        (first | rw [c17b0] | (simp only [i64_w, i32_w]; rw [c17b0]) | skip)
        have H' := Aside0.mk H
        clear H
        go_wp2
        go_meet
        case rel => exact ⟨_, (false), (by first | rfl | (simp; done) | (simp [*]; done)), H', ⟨by have := HJ4.out; have := HK2.out; first | omega | exact Nat.le_refl _⟩, ⟨by repeat (first | (with_reducible first | exact HB.out | apply below_alloc | apply pw_below_drewN | apply below_drew1) | exact HB.out)⟩⟩
      case rest =>
       clear HC16
       obtain ⟨kq, x56_15, rfl, HA, HJ15, HB⟩ := hcut
       cases kq with
       | zero => exact absurd HA.out (by simp [lexpriorlaw04_LexerJoins.j2])
       | succ kj15 =>
        have H := HA.out
        clear HA
        simp only [lexpriorlaw04_LexerJoins.j2] at H
        by_cases c18 : x56_15 = true
        ·subst c18
         have H1 : (if 0 ≤ x10_2 then (if x10_2 < (l0.length : Int) then ((lexer_Text.f kj15 ((rd_T76 l0 x10_2).f0) ((rd_T76 l0 x10_2).f1) ((rd_T76 l0 x10_2).f2)).bind fun bt208 => ((lexpriorref04_Text.f kj15 ((rd_T76 l0 x10_2).f0) ((rd_T76 l0 x10_2).f1) ((rd_T76 l0 x10_2).f2)).bind fun bt211 => (if bt208.1.toList = bt211.1.toList then ((lexpriorlaw04_num.f bt208.2).bind fun t213 => (if t213 = bt211.2 then (lexpriorlaw04_LexerJoins.l0 kj15 l0 (wrap64 (x10_2 + 1))) else (some false))) else (some false)))) else (none)) else (none)) = some r := by rw [if_pos rfl] at H; exact H
         clear H
         have H := H1
         clear H1
         by_cases c19 : 0 ≤ x10_2
         ·rw [if_pos c19] at H
          have c19b0 : decide (0 ≤ x10_2) = true := decide_eq_true c19
          clear c19
          by_cases c20 : x10_2 < (l0.length : Int)
          ·rw [if_pos c20] at H
           have c20b0 : decide (x10_2 < (l0.length : Int)) = true := decide_eq_true c20
           clear c20
           replace H := Option.bind_eq_some_iff.mp H
           obtain ⟨⟨t208, t209⟩, A210, H⟩ := H
           replace H : ((lexpriorref04_Text.f kj15 ((rd_T76 l0 x10_2).f0) ((rd_T76 l0 x10_2).f1) ((rd_T76 l0 x10_2).f2)).bind fun bt211 => (if t208.toList = bt211.1.toList then ((lexpriorlaw04_num.f t209).bind fun t213 => (if t213 = bt211.2 then (lexpriorlaw04_LexerJoins.l0 kj15 l0 (wrap64 (x10_2 + 1))) else (some false))) else (some false))) = some r := H
           have A21 := Aside0.mk A210
           clear A210
           replace H := Option.bind_eq_some_iff.mp H
           obtain ⟨⟨t211, t212⟩, A220, H⟩ := H
           replace H : (if t208.toList = t211.toList then ((lexpriorlaw04_num.f t209).bind fun t213 => (if t213 = t212 then (lexpriorlaw04_LexerJoins.l0 kj15 l0 (wrap64 (x10_2 + 1))) else (some false))) else (some false)) = some r := H
           have A22 := Aside0.mk A220
           clear A220
           by_cases c23 : t208.toList = t211.toList
           ·rw [if_pos c23] at H
            have c23b0 : (t208.toList == t211.toList) = true := beq_iff_eq.mpr c23
            have c23b1 : (t208.toList != t211.toList) = false := bne_eq_false_iff_eq.mpr c23
            clear c23
            replace H := Option.bind_eq_some_iff.mp H
            obtain ⟨t213, A240, H⟩ := H
            replace H : (if t213 = t212 then (lexpriorlaw04_LexerJoins.l0 kj15 l0 (wrap64 (x10_2 + 1))) else (some false)) = some r := H
            have A24 := Aside0.mk A240
            clear A240
            by_cases c25 : t213 = t212
            ·rw [if_pos c25] at H
             have c25b0 : (t213 == t212) = true := beq_iff_eq.mpr c25
             have c25b1 : (t213 != t212) = false := bne_eq_false_iff_eq.mpr c25
             clear c25
             have H' := Aside0.mk H
             clear H
             have p207 : 0 ≤ (x10_2 : Int) := of_decide_eq_true (by first | (with_reducible assumption) | assumption)
             have q207 : x10_2 < (l0.length : Int) := of_decide_eq_true (by first | (with_reducible assumption) | assumption)
             obtain ⟨ad207, e207, hx207_0, hx207_1, hx207_2⟩ := at_T76 HR0.out x10_2 p207 q207
             cases e207
             replace hx207_0 := (HB.out.cell (World.block_lt_of_cell? w _ hx207_0)).trans hx207_0
             replace hx207_1 := (HB.out.cell (World.block_lt_of_cell? w _ hx207_1)).trans hx207_1
             replace hx207_2 := (HB.out.cell (World.block_lt_of_cell? w _ hx207_2)).trans hx207_2
             replace p207 := eq_true p207
             replace q207 := eq_true q207
             go_wp2_with (first | ((with_reducible refine gate_callee (f := 24) rfl ?_); refine goesL_ (some 64) rfl rfl Try.func24 (by kernel_rfl) rfl #[.agg #[.int .i64 ((rd_T76 l0 x10_2).f0), .string ((rd_T76 l0 x10_2).f1), .int .i64 ((rd_T76 l0 x10_2).f2)]] rfl (by (try simp only [List.map_toArray, List.map_cons, List.map_nil]); first | done | rfl | (simp only [List.length_drop, List.length_take]; rfl)) ?_; (with_reducible refine (lexer_Text.calls kj15 ((rd_T76 l0 x10_2).f0) ((rd_T76 l0 x10_2).f1) ((rd_T76 l0 x10_2).f2) t208 t209 _ A21.out).mono ?_); rintro e w26 ⟨rfl, hb⟩; refine ⟨_, rfl, ?_⟩; have n0_ := Aside0.mk (below_step (by repeat (first | (with_reducible first | exact HB.out | apply below_alloc | apply pw_below_drewN | apply below_drew1) | exact HB.out)) hb); clear HB; have HB := n0_; clear n0_; (try clear hb); (try clear hb2); (try clear hk); (try clear hi); have p210 : 0 ≤ (x10_2 : Int) := of_decide_eq_true (by first | (with_reducible assumption) | assumption); have q210 : x10_2 < (l0.length : Int) := of_decide_eq_true (by first | (with_reducible assumption) | assumption); obtain ⟨ad210, e210, hx210_0, hx210_1, hx210_2⟩ := at_T76 HR0.out x10_2 p210 q210; obtain rfl : ad207 = ad210 := (by injection e210); replace hx210_0 := (HB.out.cell (World.block_lt_of_cell? w _ hx210_0)).trans hx210_0; replace hx210_1 := (HB.out.cell (World.block_lt_of_cell? w _ hx210_1)).trans hx210_1; replace hx210_2 := (HB.out.cell (World.block_lt_of_cell? w _ hx210_2)).trans hx210_2; replace p210 := eq_true p210; replace q210 := eq_true q210) | ((with_reducible refine gate_callee (f := 29) rfl ?_); refine goesL_ (some 72) rfl rfl Try.func29 (by kernel_rfl) rfl #[.agg #[.int .i64 ((rd_T76 l0 x10_2).f0), .string ((rd_T76 l0 x10_2).f1), .int .i64 ((rd_T76 l0 x10_2).f2)]] rfl (by (try simp only [List.map_toArray, List.map_cons, List.map_nil]); first | done | rfl | (simp only [List.length_drop, List.length_take]; rfl)) ?_; (with_reducible refine (lexpriorref04_Text.calls kj15 ((rd_T76 l0 x10_2).f0) ((rd_T76 l0 x10_2).f1) ((rd_T76 l0 x10_2).f2) t211 t212 _ A22.out).mono ?_); rintro e w27 ⟨rfl, hb⟩; refine ⟨_, rfl, ?_⟩; have n0_ := Aside0.mk (below_step (by repeat (first | (with_reducible first | exact HB.out | apply below_alloc | apply pw_below_drewN | apply below_drew1) | exact HB.out)) hb); clear HB; have HB := n0_; clear n0_; (try clear hb); (try clear hb2); (try clear hk); (try clear hi)) | (go_at_call 12; (with_reducible refine (lexpriorlaw04_num.calls t209 t213 _ A24.out).mono ?_); rintro e w' ⟨rfl, ⟨nd, rfl⟩⟩))
             go_roundg kj15
             case measure => have := HJ4.out; have := HK2.out; have := HJ15.out; omega
             case rel => exact ⟨(wrap64 (x10_2 + 1)), (by first | rfl | (simp; done) | (simp [*]; done)), H', ⟨by have := HJ4.out; have := HK2.out; have := HJ15.out; omega⟩, ⟨by repeat (first | (with_reducible first | exact HB.out | apply below_alloc | apply pw_below_drewN | apply below_drew1) | exact HB.out)⟩⟩
            ·rw [if_neg c25] at H
             have c25b0 : (t213 == t212) = false := beq_eq_false_iff_ne.mpr c25
             have c25b1 : (t213 != t212) = true := bne_iff_ne.mpr c25
             obtain rfl := Option.some.inj H
             have p207 : 0 ≤ (x10_2 : Int) := of_decide_eq_true (by first | (with_reducible assumption) | assumption)
             have q207 : x10_2 < (l0.length : Int) := of_decide_eq_true (by first | (with_reducible assumption) | assumption)
             obtain ⟨ad207, e207, hx207_0, hx207_1, hx207_2⟩ := at_T76 HR0.out x10_2 p207 q207
             cases e207
             replace hx207_0 := (HB.out.cell (World.block_lt_of_cell? w _ hx207_0)).trans hx207_0
             replace hx207_1 := (HB.out.cell (World.block_lt_of_cell? w _ hx207_1)).trans hx207_1
             replace hx207_2 := (HB.out.cell (World.block_lt_of_cell? w _ hx207_2)).trans hx207_2
             replace p207 := eq_true p207
             replace q207 := eq_true q207
             go_wp2_with (first | ((with_reducible refine gate_callee (f := 24) rfl ?_); refine goesL_ (some 64) rfl rfl Try.func24 (by kernel_rfl) rfl #[.agg #[.int .i64 ((rd_T76 l0 x10_2).f0), .string ((rd_T76 l0 x10_2).f1), .int .i64 ((rd_T76 l0 x10_2).f2)]] rfl (by (try simp only [List.map_toArray, List.map_cons, List.map_nil]); first | done | rfl | (simp only [List.length_drop, List.length_take]; rfl)) ?_; (with_reducible refine (lexer_Text.calls kj15 ((rd_T76 l0 x10_2).f0) ((rd_T76 l0 x10_2).f1) ((rd_T76 l0 x10_2).f2) t208 t209 _ A21.out).mono ?_); rintro e w28 ⟨rfl, hb⟩; refine ⟨_, rfl, ?_⟩; have n0_ := Aside0.mk (below_step (by repeat (first | (with_reducible first | exact HB.out | apply below_alloc | apply pw_below_drewN | apply below_drew1) | exact HB.out)) hb); clear HB; have HB := n0_; clear n0_; (try clear hb); (try clear hb2); (try clear hk); (try clear hi); have p210 : 0 ≤ (x10_2 : Int) := of_decide_eq_true (by first | (with_reducible assumption) | assumption); have q210 : x10_2 < (l0.length : Int) := of_decide_eq_true (by first | (with_reducible assumption) | assumption); obtain ⟨ad210, e210, hx210_0, hx210_1, hx210_2⟩ := at_T76 HR0.out x10_2 p210 q210; obtain rfl : ad207 = ad210 := (by injection e210); replace hx210_0 := (HB.out.cell (World.block_lt_of_cell? w _ hx210_0)).trans hx210_0; replace hx210_1 := (HB.out.cell (World.block_lt_of_cell? w _ hx210_1)).trans hx210_1; replace hx210_2 := (HB.out.cell (World.block_lt_of_cell? w _ hx210_2)).trans hx210_2; replace p210 := eq_true p210; replace q210 := eq_true q210) | ((with_reducible refine gate_callee (f := 29) rfl ?_); refine goesL_ (some 72) rfl rfl Try.func29 (by kernel_rfl) rfl #[.agg #[.int .i64 ((rd_T76 l0 x10_2).f0), .string ((rd_T76 l0 x10_2).f1), .int .i64 ((rd_T76 l0 x10_2).f2)]] rfl (by (try simp only [List.map_toArray, List.map_cons, List.map_nil]); first | done | rfl | (simp only [List.length_drop, List.length_take]; rfl)) ?_; (with_reducible refine (lexpriorref04_Text.calls kj15 ((rd_T76 l0 x10_2).f0) ((rd_T76 l0 x10_2).f1) ((rd_T76 l0 x10_2).f2) t211 t212 _ A22.out).mono ?_); rintro e w29 ⟨rfl, hb⟩; refine ⟨_, rfl, ?_⟩; have n0_ := Aside0.mk (below_step (by repeat (first | (with_reducible first | exact HB.out | apply below_alloc | apply pw_below_drewN | apply below_drew1) | exact HB.out)) hb); clear HB; have HB := n0_; clear n0_; (try clear hb); (try clear hb2); (try clear hk); (try clear hi)) | (go_at_call 12; (with_reducible refine (lexpriorlaw04_num.calls t209 t213 _ A24.out).mono ?_); rintro e w' ⟨rfl, ⟨nd, rfl⟩⟩))
             go_ret
             exact ⟨by first | rfl | (simp [errW_none, errW_some] <;> rfl) | (simp [*, errW_none, errW_some] <;> rfl), by repeat (first | (with_reducible first | exact HB.out | apply below_alloc | apply pw_below_drewN | apply below_drew1) | exact HB.out)⟩
           ·rw [if_neg c23] at H
            have c23b0 : (t208.toList == t211.toList) = false := beq_eq_false_iff_ne.mpr c23
            have c23b1 : (t208.toList != t211.toList) = true := bne_iff_ne.mpr c23
            obtain rfl := Option.some.inj H
            have p207 : 0 ≤ (x10_2 : Int) := of_decide_eq_true (by first | (with_reducible assumption) | assumption)
            have q207 : x10_2 < (l0.length : Int) := of_decide_eq_true (by first | (with_reducible assumption) | assumption)
            obtain ⟨ad207, e207, hx207_0, hx207_1, hx207_2⟩ := at_T76 HR0.out x10_2 p207 q207
            cases e207
            replace hx207_0 := (HB.out.cell (World.block_lt_of_cell? w _ hx207_0)).trans hx207_0
            replace hx207_1 := (HB.out.cell (World.block_lt_of_cell? w _ hx207_1)).trans hx207_1
            replace hx207_2 := (HB.out.cell (World.block_lt_of_cell? w _ hx207_2)).trans hx207_2
            replace p207 := eq_true p207
            replace q207 := eq_true q207
            go_wp2_with (first | ((with_reducible refine gate_callee (f := 24) rfl ?_); refine goesL_ (some 64) rfl rfl Try.func24 (by kernel_rfl) rfl #[.agg #[.int .i64 ((rd_T76 l0 x10_2).f0), .string ((rd_T76 l0 x10_2).f1), .int .i64 ((rd_T76 l0 x10_2).f2)]] rfl (by (try simp only [List.map_toArray, List.map_cons, List.map_nil]); first | done | rfl | (simp only [List.length_drop, List.length_take]; rfl)) ?_; (with_reducible refine (lexer_Text.calls kj15 ((rd_T76 l0 x10_2).f0) ((rd_T76 l0 x10_2).f1) ((rd_T76 l0 x10_2).f2) t208 t209 _ A21.out).mono ?_); rintro e w30 ⟨rfl, hb⟩; refine ⟨_, rfl, ?_⟩; have n0_ := Aside0.mk (below_step (by repeat (first | (with_reducible first | exact HB.out | apply below_alloc | apply pw_below_drewN | apply below_drew1) | exact HB.out)) hb); clear HB; have HB := n0_; clear n0_; (try clear hb); (try clear hb2); (try clear hk); (try clear hi); have p210 : 0 ≤ (x10_2 : Int) := of_decide_eq_true (by first | (with_reducible assumption) | assumption); have q210 : x10_2 < (l0.length : Int) := of_decide_eq_true (by first | (with_reducible assumption) | assumption); obtain ⟨ad210, e210, hx210_0, hx210_1, hx210_2⟩ := at_T76 HR0.out x10_2 p210 q210; obtain rfl : ad207 = ad210 := (by injection e210); replace hx210_0 := (HB.out.cell (World.block_lt_of_cell? w _ hx210_0)).trans hx210_0; replace hx210_1 := (HB.out.cell (World.block_lt_of_cell? w _ hx210_1)).trans hx210_1; replace hx210_2 := (HB.out.cell (World.block_lt_of_cell? w _ hx210_2)).trans hx210_2; replace p210 := eq_true p210; replace q210 := eq_true q210) | ((with_reducible refine gate_callee (f := 29) rfl ?_); refine goesL_ (some 72) rfl rfl Try.func29 (by kernel_rfl) rfl #[.agg #[.int .i64 ((rd_T76 l0 x10_2).f0), .string ((rd_T76 l0 x10_2).f1), .int .i64 ((rd_T76 l0 x10_2).f2)]] rfl (by (try simp only [List.map_toArray, List.map_cons, List.map_nil]); first | done | rfl | (simp only [List.length_drop, List.length_take]; rfl)) ?_; (with_reducible refine (lexpriorref04_Text.calls kj15 ((rd_T76 l0 x10_2).f0) ((rd_T76 l0 x10_2).f1) ((rd_T76 l0 x10_2).f2) t211 t212 _ A22.out).mono ?_); rintro e w31 ⟨rfl, hb⟩; refine ⟨_, rfl, ?_⟩; have n0_ := Aside0.mk (below_step (by repeat (first | (with_reducible first | exact HB.out | apply below_alloc | apply pw_below_drewN | apply below_drew1) | exact HB.out)) hb); clear HB; have HB := n0_; clear n0_; (try clear hb); (try clear hb2); (try clear hk); (try clear hi)))
            go_ret
            exact ⟨by first | rfl | (simp [errW_none, errW_some] <;> rfl) | (simp [*, errW_none, errW_some] <;> rfl), by repeat (first | (with_reducible first | exact HB.out | apply below_alloc | apply pw_below_drewN | apply below_drew1) | exact HB.out)⟩
          ·rw [if_neg c20] at H
           exact absurd H (by simp)
         ·rw [if_neg c19] at H
          exact absurd H (by simp)
        ·replace c18 := Bool.eq_false_iff.mpr c18
         subst c18
         have H1 : ((lexpriorlaw04_works.f).bind fun t206 => (some t206)) = some r := by rw [if_neg (show ¬ (false = true) by decide)] at H; exact H
         clear H
         have H := H1
         clear H1
         replace H := Option.bind_eq_some_iff.mp H
         obtain ⟨t206, A320, H⟩ := H
         replace H : (some t206) = some r := H
         have A32 := Aside0.mk A320
         clear A320
         obtain rfl := Option.some.inj H
         go_wp2_with (first | ((with_reducible refine gate_callee (f := 13) rfl ?_); refine goesL_ (some 84) rfl rfl Try.func13 (by kernel_rfl) rfl #[] rfl (by (try simp only [List.map_toArray, List.map_cons, List.map_nil]); first | done | rfl | (simp only [List.length_drop, List.length_take]; rfl)) ?_; (with_reducible refine (lexpriorlaw04_works.calls  t206 _ A32.out).mono ?_); rintro e w33 ⟨rfl, hb⟩; refine ⟨_, rfl, ?_⟩; have n0_ := Aside0.mk (below_step (by repeat (first | (with_reducible first | exact HB.out | apply below_alloc | apply pw_below_drewN | apply below_drew1) | exact HB.out)) hb); clear HB; have HB := n0_; clear n0_; (try clear hb); (try clear hb2); (try clear hk); (try clear hi)))
         go_ret
         exact ⟨by first | rfl | (simp [errW_none, errW_some] <;> rfl) | (simp [*, errW_none, errW_some] <;> rfl), by repeat (first | (with_reducible first | exact HB.out | apply below_alloc | apply pw_below_drewN | apply below_drew1) | exact HB.out)⟩

end Go.Proofs.Ytmjneidcdaapdaa.P
