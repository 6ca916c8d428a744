-- Written by lexprint.py, a program of this session's own that runs the kit's print with turned rows. Lean checks it.
import Derived.Test.YthlmpioijjnmnaaPx0
import Derived.Test.YthlmpioijjnmnaaPx5
import Derived.Test.YthlmpioijjnmnaaPx6
namespace Go.Proofs.Ythlmpioijjnmnaa.P
open Go.RowKit Go.Proofs.YthlmpioijjnmnaaW.PrintWords Go.Proofs.YthlmpioijjnmnaaW.PrintLast Go.Proofs.YthlmpioijjnmnaaW.PrintMore
attribute [local go_sem] max2_int min2_int max_two min_two
set_option linter.unusedVariables false
set_option linter.unusedSimpArgs false

/-! ### lexpriorlaw14_StrictConditions: function 4 -/
mutual
def lexpriorlaw14_StrictConditions.l0 : Nat → List Bool → List Bool → List Bool → List Int → Int → Int → List (List Int) → List (S37) → List (List Int) → Option (Bool)
  | 0, _, _, _, _, _, _, _, _, _ => none
  | k + 1, x11, x13, x15, x17, x18, x198000, x198001, x198002, x198003 => if x18 < x198000 then (if 0 ≤ x18 then (if x18 < (x15.length : Int) then (if rdOf false x15 x18 = true then (if x18 < (x17.length : Int) then (lexpriorlaw14_StrictConditions.l0 k x11 x13 x15 (x17.set (x18 : Int).toNat 1) (wrap64 (x18 + 1)) x198000 x198001 x198002 x198003) else (none)) else (lexpriorlaw14_StrictConditions.l0 k x11 x13 x15 x17 (wrap64 (x18 + 1)) x198000 x198001 x198002 x198003)) else (none)) else (none)) else (lexpriorlaw14_StrictConditions.l1 k x11 x13 x17 0 x198000 x198001 x198002 x198003)
def lexpriorlaw14_StrictConditions.l1 : Nat → List Bool → List Bool → List Int → Int → Int → List (List Int) → List (S37) → List (List Int) → Option (Bool)
  | 0, _, _, _, _, _, _, _, _ => none
  | k + 1, x11, x13, x17, x19, x198000, x198001, x198002, x198003 => if x19 < (x198002.length : Int) then (if 0 ≤ x19 then (if ((rd_T37 x198002 x19).f0) = 1 then (lexpriorlaw14_StrictConditions.l2 k x11 x13 x17 x19 true false 0 x198000 x198001 x198002 x198003 ((rd_T37 x198002 x19).f0) ((rd_T37 x198002 x19).f1) ((rd_T37 x198002 x19).f2)) else (lexpriorlaw14_StrictConditions.l1 k x11 x13 x17 (wrap64 (x19 + 1)) x198000 x198001 x198002 x198003)) else (none)) else (lexpriorlaw14_StrictConditions.l3 k x11 x13 x17 0 x198000 x198001 x198002 x198003)
def lexpriorlaw14_StrictConditions.l2 : Nat → List Bool → List Bool → List Int → Int → Bool → Bool → Int → Int → List (List Int) → List (S37) → List (List Int) → Int → Int → List Int → Option (Bool)
  | 0, _, _, _, _, _, _, _, _, _, _, _, _, _, _ => none
  | k + 1, x11, x13, x17, x19, x21, x22, x23, x198000, x198001, x198002, x198003, x230000, x230001, x230002 => if x23 < (x230002.length : Int) then (if x21 = true then (if 0 ≤ x23 then (if 0 ≤ (rd x230002 x23) then (if (rd x230002 x23) < (x11.length : Int) then (if x22 = true then (lexpriorlaw14_StrictConditions.l2 k x11 x13 x17 x19 (rdOf false x11 (rd x230002 x23)) true (wrap64 (x23 + 1)) x198000 x198001 x198002 x198003 x230000 x230001 x230002) else (if (rd x230002 x23) < (x13.length : Int) then (lexpriorlaw14_StrictConditions.l2 k x11 x13 x17 x19 (rdOf false x11 (rd x230002 x23)) (rdOf false x13 (rd x230002 x23)) (wrap64 (x23 + 1)) x198000 x198001 x198002 x198003 x230000 x230001 x230002) else (none))) else (none)) else (none)) else (none)) else (if x22 = true then (lexpriorlaw14_StrictConditions.l2 k x11 x13 x17 x19 false true (wrap64 (x23 + 1)) x198000 x198001 x198002 x198003 x230000 x230001 x230002) else (if 0 ≤ x23 then (if 0 ≤ (rd x230002 x23) then (if (rd x230002 x23) < (x13.length : Int) then (lexpriorlaw14_StrictConditions.l2 k x11 x13 x17 x19 false (rdOf false x13 (rd x230002 x23)) (wrap64 (x23 + 1)) x198000 x198001 x198002 x198003 x230000 x230001 x230002) else (none)) else (none)) else (none)))) else (if x21 = true then (if 0 ≤ x230001 then (if x230001 < (x17.length : Int) then ((some (x17.set (x230001 : Int).toNat 1 : List Int)).bind fun y236 => (if x22 = true then (lexpriorlaw14_StrictConditions.l1 k x11 x13 y236 (wrap64 (x19 + 1)) x198000 x198001 x198002 x198003) else (if (rd y236 x230001) = 0 then (lexpriorlaw14_StrictConditions.l1 k x11 x13 (y236.set (x230001 : Int).toNat 2) (wrap64 (x19 + 1)) x198000 x198001 x198002 x198003) else (lexpriorlaw14_StrictConditions.l1 k x11 x13 y236 (wrap64 (x19 + 1)) x198000 x198001 x198002 x198003)))) else (none)) else (none)) else (if x22 = true then (lexpriorlaw14_StrictConditions.l1 k x11 x13 x17 (wrap64 (x19 + 1)) x198000 x198001 x198002 x198003) else (if 0 ≤ x230001 then (if x230001 < (x17.length : Int) then (if (rd x17 x230001) = 0 then (lexpriorlaw14_StrictConditions.l1 k x11 x13 (x17.set (x230001 : Int).toNat 2) (wrap64 (x19 + 1)) x198000 x198001 x198002 x198003) else (lexpriorlaw14_StrictConditions.l1 k x11 x13 x17 (wrap64 (x19 + 1)) x198000 x198001 x198002 x198003)) else (none)) else (none))))
def lexpriorlaw14_StrictConditions.l3 : Nat → List Bool → List Bool → List Int → Int → Int → List (List Int) → List (S37) → List (List Int) → Option (Bool)
  | 0, _, _, _, _, _, _, _, _ => none
  | k + 1, x11, x13, x17, x24, x198000, x198001, x198002, x198003 => if x24 < x198000 then (if 0 ≤ x24 then (if x24 < (x11.length : Int) then (if rdOf false x11 x24 = true then (if x24 < (x13.length : Int) then (if rdOf false x13 x24 = true then (none) else (if x24 < (x17.length : Int) then (if ((rdOf false x11 x24) != ((rd x17 x24) == 1)) = true then (none) else (if ((rdOf false x13 x24) != ((rd x17 x24) == 0)) = true then (none) else (lexpriorlaw14_StrictConditions.l3 k x11 x13 x17 (wrap64 (x24 + 1)) x198000 x198001 x198002 x198003))) else (none))) else (none)) else (if x24 < (x17.length : Int) then (if ((rdOf false x11 x24) != ((rd x17 x24) == 1)) = true then (none) else (if x24 < (x13.length : Int) then (if ((rdOf false x13 x24) != ((rd x17 x24) == 0)) = true then (none) else (lexpriorlaw14_StrictConditions.l3 k x11 x13 x17 (wrap64 (x24 + 1)) x198000 x198001 x198002 x198003)) else (none))) else (none))) else (none)) else (none)) else (some true)
end
def lexpriorlaw14_StrictConditions.f (k : Nat) (a0_0 : Int) (l0_1 : List (List Int)) (l0_2 : List (S37)) (l0_3 : List (List Int)) (l1 : List Int) : Option (Bool) := (lexpriorlaw14_works.f k).bind fun t198 => (if t198 = true then ((strict_Plus.f k a0_0 l0_1 l0_2 l0_3 l1).bind fun bt199 => ((strict_Minus.f k a0_0 l0_1 l0_2 l0_3 l1).bind fun bt203 => ((strict_Neither.f k a0_0 l0_1 l0_2 l0_3 l1).bind fun bt207 => (if bt199.2 = 0 then ((lexpriorlaw14_marked.f a0_0 bt199.1).bind fun bt211 => ((lexpriorlaw14_marked.f a0_0 bt203.1).bind fun bt215 => (if bt203.2 = 0 then (if bt207.2 = 0 then (if bt211.2 = true then (if bt215.2 = true then (if (wrap64 ((wrap64 ((bt199.1.length : Int) + (bt203.1.length : Int))) + (bt207.1.length : Int))) = a0_0 then ((lexpriorlaw14_marked.f a0_0 l1).bind fun bt219 => (if 0 ≤ a0_0 then (if (a0_0 : Int).toNat ≤ 35184372088832 then (lexpriorlaw14_StrictConditions.l0 k bt211.1 bt215.1 bt219.1 (List.replicate (a0_0 : Int).toNat 0) 0 a0_0 l0_1 l0_2 l0_3) else (none)) else (none))) else (some false)) else (none)) else (none)) else (none)) else (none)))) else (if bt203.2 = bt199.2 then (if bt207.2 = bt199.2 then (some ((wrap64 ((wrap64 ((bt199.1.length : Int) + (bt203.1.length : Int))) + (bt207.1.length : Int))) == 0)) else (none)) else (none)))))) else (none))
set_option maxHeartbeats 8000000 in
set_option maxRecDepth 100000 in
theorem lexpriorlaw14_StrictConditions.calls (k : Nat) (a0_0 : Int) (A0_1 : Option Addr) (c0_1 : Nat) (l0_1 : List (List Int)) (A0_2 : Option Addr) (c0_2 : Nat) (l0_2 : List (S37)) (A0_3 : Option Addr) (c0_3 : Nat) (l0_3 : List (List Int)) (A1 : Option Addr) (c1 : Nat) (l1 : List Int) (r : Bool) (w : World) (hr0_1 : Kd.C (Kd.slice 3 (Kd.int .i64)) w A0_1 l0_1.length l0_1) (hc0_1 : l0_1.length ≤ c0_1) (hr0_2 : Kd.C k37 w A0_2 l0_2.length l0_2) (hc0_2 : l0_2.length ≤ c0_2) (hr0_3 : Kd.C (Kd.slice 3 (Kd.int .i64)) w A0_3 l0_3.length l0_3) (hc0_3 : l0_3.length ≤ c0_3) (hr1 : Kd.C (Kd.int .i64) w A1 l1.length l1) (hc1 : l1.length ≤ c1) (h : lexpriorlaw14_StrictConditions.f k a0_0 l0_1 l0_2 l0_3 l1 = some r) :
    Calls Try.prog 4 #[.agg #[.int .i64 a0_0, .slice A0_1 l0_1.length c0_1, .slice A0_2 l0_2.length c0_2, .slice A0_3 l0_3.length c0_3], .slice A1 l1.length c1] w fun e w' => e = .returned (.bool r) ∧ Below w.heap.size w w' := by
  have hu25 := Try.underlying25
  have hu37 := Try.underlying37
  have HR0_1 := Aside0.mk hr0_1
  have HC0_1 := Aside0.mk hc0_1
  clear hr0_1 hc0_1
  have HR0_2 := Aside0.mk hr0_2
  have HC0_2 := Aside0.mk hc0_2
  clear hr0_2 hc0_2
  have HR0_3 := Aside0.mk hr0_3
  have HC0_3 := Aside0.mk hc0_3
  clear hr0_3 hc0_3
  have HR1 := Aside0.mk hr1
  have HC1 := Aside0.mk hc1
  clear hr1 hc1
  have HB := Aside0.mk (Below.refl w.heap.size w)
  have H : ((lexpriorlaw14_works.f k).bind fun t198 => (if t198 = true then ((strict_Plus.f k a0_0 l0_1 l0_2 l0_3 l1).bind fun bt199 => ((strict_Minus.f k a0_0 l0_1 l0_2 l0_3 l1).bind fun bt203 => ((strict_Neither.f k a0_0 l0_1 l0_2 l0_3 l1).bind fun bt207 => (if bt199.2 = 0 then ((lexpriorlaw14_marked.f a0_0 bt199.1).bind fun bt211 => ((lexpriorlaw14_marked.f a0_0 bt203.1).bind fun bt215 => (if bt203.2 = 0 then (if bt207.2 = 0 then (if bt211.2 = true then (if bt215.2 = true then (if (wrap64 ((wrap64 ((bt199.1.length : Int) + (bt203.1.length : Int))) + (bt207.1.length : Int))) = a0_0 then ((lexpriorlaw14_marked.f a0_0 l1).bind fun bt219 => (if 0 ≤ a0_0 then (if (a0_0 : Int).toNat ≤ 35184372088832 then (lexpriorlaw14_StrictConditions.l0 k bt211.1 bt215.1 bt219.1 (List.replicate (a0_0 : Int).toNat 0) 0 a0_0 l0_1 l0_2 l0_3) else (none)) else (none))) else (some false)) else (none)) else (none)) else (none)) else (none)))) else (if bt203.2 = bt199.2 then (if bt207.2 = bt199.2 then (some ((wrap64 ((wrap64 ((bt199.1.length : Int) + (bt203.1.length : Int))) + (bt207.1.length : Int))) == 0)) else (none)) else (none)))))) else (none))) = some r := h
  clear h
  replace H := Option.bind_eq_some_iff.mp H
  obtain ⟨t198, A30, H⟩ := H
  replace H : (if t198 = true then ((strict_Plus.f k a0_0 l0_1 l0_2 l0_3 l1).bind fun bt199 => ((strict_Minus.f k a0_0 l0_1 l0_2 l0_3 l1).bind fun bt203 => ((strict_Neither.f k a0_0 l0_1 l0_2 l0_3 l1).bind fun bt207 => (if bt199.2 = 0 then ((lexpriorlaw14_marked.f a0_0 bt199.1).bind fun bt211 => ((lexpriorlaw14_marked.f a0_0 bt203.1).bind fun bt215 => (if bt203.2 = 0 then (if bt207.2 = 0 then (if bt211.2 = true then (if bt215.2 = true then (if (wrap64 ((wrap64 ((bt199.1.length : Int) + (bt203.1.length : Int))) + (bt207.1.length : Int))) = a0_0 then ((lexpriorlaw14_marked.f a0_0 l1).bind fun bt219 => (if 0 ≤ a0_0 then (if (a0_0 : Int).toNat ≤ 35184372088832 then (lexpriorlaw14_StrictConditions.l0 k bt211.1 bt215.1 bt219.1 (List.replicate (a0_0 : Int).toNat 0) 0 a0_0 l0_1 l0_2 l0_3) else (none)) else (none))) else (some false)) else (none)) else (none)) else (none)) else (none)))) else (if bt203.2 = bt199.2 then (if bt207.2 = bt199.2 then (some ((wrap64 ((wrap64 ((bt199.1.length : Int) + (bt203.1.length : Int))) + (bt207.1.length : Int))) == 0)) else (none)) else (none)))))) else (none)) = some r := H
  have A3 := Aside0.mk A30
  clear A30
  by_cases c4 : t198 = true
  · subst c4
    have H1 : ((strict_Plus.f k a0_0 l0_1 l0_2 l0_3 l1).bind fun bt199 => ((strict_Minus.f k a0_0 l0_1 l0_2 l0_3 l1).bind fun bt203 => ((strict_Neither.f k a0_0 l0_1 l0_2 l0_3 l1).bind fun bt207 => (if bt199.2 = 0 then ((lexpriorlaw14_marked.f a0_0 bt199.1).bind fun bt211 => ((lexpriorlaw14_marked.f a0_0 bt203.1).bind fun bt215 => (if bt203.2 = 0 then (if bt207.2 = 0 then (if bt211.2 = true then (if bt215.2 = true then (if (wrap64 ((wrap64 ((bt199.1.length : Int) + (bt203.1.length : Int))) + (bt207.1.length : Int))) = a0_0 then ((lexpriorlaw14_marked.f a0_0 l1).bind fun bt219 => (if 0 ≤ a0_0 then (if (a0_0 : Int).toNat ≤ 35184372088832 then (lexpriorlaw14_StrictConditions.l0 k bt211.1 bt215.1 bt219.1 (List.replicate (a0_0 : Int).toNat 0) 0 a0_0 l0_1 l0_2 l0_3) else (none)) else (none))) else (some false)) else (none)) else (none)) else (none)) else (none)))) else (if bt203.2 = bt199.2 then (if bt207.2 = bt199.2 then (some ((wrap64 ((wrap64 ((bt199.1.length : Int) + (bt203.1.length : Int))) + (bt207.1.length : Int))) == 0)) else (none)) else (none)))))) = some r := by rw [if_pos rfl] at H; exact H
    clear H
    have H := H1
    clear H1
    replace H := Option.bind_eq_some_iff.mp H
    obtain ⟨⟨t199, t202⟩, A50, H⟩ := H
    replace H : ((strict_Minus.f k a0_0 l0_1 l0_2 l0_3 l1).bind fun bt203 => ((strict_Neither.f k a0_0 l0_1 l0_2 l0_3 l1).bind fun bt207 => (if t202 = 0 then ((lexpriorlaw14_marked.f a0_0 t199).bind fun bt211 => ((lexpriorlaw14_marked.f a0_0 bt203.1).bind fun bt215 => (if bt203.2 = 0 then (if bt207.2 = 0 then (if bt211.2 = true then (if bt215.2 = true then (if (wrap64 ((wrap64 ((t199.length : Int) + (bt203.1.length : Int))) + (bt207.1.length : Int))) = a0_0 then ((lexpriorlaw14_marked.f a0_0 l1).bind fun bt219 => (if 0 ≤ a0_0 then (if (a0_0 : Int).toNat ≤ 35184372088832 then (lexpriorlaw14_StrictConditions.l0 k bt211.1 bt215.1 bt219.1 (List.replicate (a0_0 : Int).toNat 0) 0 a0_0 l0_1 l0_2 l0_3) else (none)) else (none))) else (some false)) else (none)) else (none)) else (none)) else (none)))) else (if bt203.2 = t202 then (if bt207.2 = t202 then (some ((wrap64 ((wrap64 ((t199.length : Int) + (bt203.1.length : Int))) + (bt207.1.length : Int))) == 0)) else (none)) else (none))))) = some r := H
    have A5 := Aside0.mk A50
    clear A50
    replace H := Option.bind_eq_some_iff.mp H
    obtain ⟨⟨t203, t206⟩, A60, H⟩ := H
    replace H : ((strict_Neither.f k a0_0 l0_1 l0_2 l0_3 l1).bind fun bt207 => (if t202 = 0 then ((lexpriorlaw14_marked.f a0_0 t199).bind fun bt211 => ((lexpriorlaw14_marked.f a0_0 t203).bind fun bt215 => (if t206 = 0 then (if bt207.2 = 0 then (if bt211.2 = true then (if bt215.2 = true then (if (wrap64 ((wrap64 ((t199.length : Int) + (t203.length : Int))) + (bt207.1.length : Int))) = a0_0 then ((lexpriorlaw14_marked.f a0_0 l1).bind fun bt219 => (if 0 ≤ a0_0 then (if (a0_0 : Int).toNat ≤ 35184372088832 then (lexpriorlaw14_StrictConditions.l0 k bt211.1 bt215.1 bt219.1 (List.replicate (a0_0 : Int).toNat 0) 0 a0_0 l0_1 l0_2 l0_3) else (none)) else (none))) else (some false)) else (none)) else (none)) else (none)) else (none)))) else (if t206 = t202 then (if bt207.2 = t202 then (some ((wrap64 ((wrap64 ((t199.length : Int) + (t203.length : Int))) + (bt207.1.length : Int))) == 0)) else (none)) else (none)))) = some r := H
    have A6 := Aside0.mk A60
    clear A60
    replace H := Option.bind_eq_some_iff.mp H
    obtain ⟨⟨t207, t210⟩, A70, H⟩ := H
    replace H : (if t202 = 0 then ((lexpriorlaw14_marked.f a0_0 t199).bind fun bt211 => ((lexpriorlaw14_marked.f a0_0 t203).bind fun bt215 => (if t206 = 0 then (if t210 = 0 then (if bt211.2 = true then (if bt215.2 = true then (if (wrap64 ((wrap64 ((t199.length : Int) + (t203.length : Int))) + (t207.length : Int))) = a0_0 then ((lexpriorlaw14_marked.f a0_0 l1).bind fun bt219 => (if 0 ≤ a0_0 then (if (a0_0 : Int).toNat ≤ 35184372088832 then (lexpriorlaw14_StrictConditions.l0 k bt211.1 bt215.1 bt219.1 (List.replicate (a0_0 : Int).toNat 0) 0 a0_0 l0_1 l0_2 l0_3) else (none)) else (none))) else (some false)) else (none)) else (none)) else (none)) else (none)))) else (if t206 = t202 then (if t210 = t202 then (some ((wrap64 ((wrap64 ((t199.length : Int) + (t203.length : Int))) + (t207.length : Int))) == 0)) else (none)) else (none))) = some r := H
    have A7 := Aside0.mk A70
    clear A70
    by_cases c8 : t202 = 0
    · rw [if_pos c8] at H
      have c8b0 : (t202 == 0) = true := beq_iff_eq.mpr c8
      have c8b1 : (t202 != 0) = false := bne_eq_false_iff_eq.mpr c8
      clear c8
      replace H := Option.bind_eq_some_iff.mp H
      obtain ⟨⟨t211, t212⟩, A90, H⟩ := H
      replace H : ((lexpriorlaw14_marked.f a0_0 t203).bind fun bt215 => (if t206 = 0 then (if t210 = 0 then (if t212 = true then (if bt215.2 = true then (if (wrap64 ((wrap64 ((t199.length : Int) + (t203.length : Int))) + (t207.length : Int))) = a0_0 then ((lexpriorlaw14_marked.f a0_0 l1).bind fun bt219 => (if 0 ≤ a0_0 then (if (a0_0 : Int).toNat ≤ 35184372088832 then (lexpriorlaw14_StrictConditions.l0 k t211 bt215.1 bt219.1 (List.replicate (a0_0 : Int).toNat 0) 0 a0_0 l0_1 l0_2 l0_3) else (none)) else (none))) else (some false)) else (none)) else (none)) else (none)) else (none))) = some r := H
      have A9 := Aside0.mk A90
      clear A90
      replace H := Option.bind_eq_some_iff.mp H
      obtain ⟨⟨t215, t216⟩, A100, H⟩ := H
      replace H : (if t206 = 0 then (if t210 = 0 then (if t212 = true then (if t216 = true then (if (wrap64 ((wrap64 ((t199.length : Int) + (t203.length : Int))) + (t207.length : Int))) = a0_0 then ((lexpriorlaw14_marked.f a0_0 l1).bind fun bt219 => (if 0 ≤ a0_0 then (if (a0_0 : Int).toNat ≤ 35184372088832 then (lexpriorlaw14_StrictConditions.l0 k t211 t215 bt219.1 (List.replicate (a0_0 : Int).toNat 0) 0 a0_0 l0_1 l0_2 l0_3) else (none)) else (none))) else (some false)) else (none)) else (none)) else (none)) else (none)) = some r := H
      have A10 := Aside0.mk A100
      clear A100
      by_cases c11 : t206 = 0
      · rw [if_pos c11] at H
        have c11b0 : (t206 == 0) = true := beq_iff_eq.mpr c11
        have c11b1 : (t206 != 0) = false := bne_eq_false_iff_eq.mpr c11
        clear c11
        by_cases c12 : t210 = 0
        · rw [if_pos c12] at H
          have c12b0 : (t210 == 0) = true := beq_iff_eq.mpr c12
          have c12b1 : (t210 != 0) = false := bne_eq_false_iff_eq.mpr c12
          clear c12
          by_cases c13 : t212 = true
          · subst c13
            have H1 : (if t216 = true then (if (wrap64 ((wrap64 ((t199.length : Int) + (t203.length : Int))) + (t207.length : Int))) = a0_0 then ((lexpriorlaw14_marked.f a0_0 l1).bind fun bt219 => (if 0 ≤ a0_0 then (if (a0_0 : Int).toNat ≤ 35184372088832 then (lexpriorlaw14_StrictConditions.l0 k t211 t215 bt219.1 (List.replicate (a0_0 : Int).toNat 0) 0 a0_0 l0_1 l0_2 l0_3) else (none)) else (none))) else (some false)) else (none)) = some r := by rw [if_pos rfl] at H; exact H
            clear H
            have H := H1
            clear H1
            by_cases c14 : t216 = true
            · subst c14
              have H1 : (if (wrap64 ((wrap64 ((t199.length : Int) + (t203.length : Int))) + (t207.length : Int))) = a0_0 then ((lexpriorlaw14_marked.f a0_0 l1).bind fun bt219 => (if 0 ≤ a0_0 then (if (a0_0 : Int).toNat ≤ 35184372088832 then (lexpriorlaw14_StrictConditions.l0 k t211 t215 bt219.1 (List.replicate (a0_0 : Int).toNat 0) 0 a0_0 l0_1 l0_2 l0_3) else (none)) else (none))) else (some false)) = some r := by rw [if_pos rfl] at H; exact H
              clear H
              have H := H1
              clear H1
              by_cases c15 : (wrap64 ((wrap64 ((t199.length : Int) + (t203.length : Int))) + (t207.length : Int))) = a0_0
              · rw [if_pos c15] at H
                have c15b0 : ((wrap64 ((wrap64 ((t199.length : Int) + (t203.length : Int))) + (t207.length : Int))) == a0_0) = true := beq_iff_eq.mpr c15
                have c15b1 : ((wrap64 ((wrap64 ((t199.length : Int) + (t203.length : Int))) + (t207.length : Int))) != a0_0) = false := bne_eq_false_iff_eq.mpr c15
                clear c15
                replace H := Option.bind_eq_some_iff.mp H
                obtain ⟨⟨t219, t220⟩, A160, H⟩ := H
                replace H : (if 0 ≤ a0_0 then (if (a0_0 : Int).toNat ≤ 35184372088832 then (lexpriorlaw14_StrictConditions.l0 k t211 t215 t219 (List.replicate (a0_0 : Int).toNat 0) 0 a0_0 l0_1 l0_2 l0_3) else (none)) else (none)) = some r := H
                have A16 := Aside0.mk A160
                clear A160
                by_cases c17 : 0 ≤ a0_0
                · rw [if_pos c17] at H
                  have c17b0 := eq_true c17
                  have c17b1 : decide (0 ≤ a0_0) = true := decide_eq_true c17
                  clear c17
                  by_cases c18 : (a0_0 : Int).toNat ≤ 35184372088832
                  · rw [if_pos c18] at H
                    have c18b0 := eq_true c18
                    have c18b1 : decide ((a0_0 : Int).toNat ≤ 35184372088832) = true := decide_eq_true c18
                    clear c18
                    obtain ⟨y223, hy223⟩ : ∃ y_ : List Int, y_ = (List.replicate (a0_0 : Int).toNat 0) := ⟨_, rfl⟩
                    replace H : (lexpriorlaw14_StrictConditions.l0 k t211 t215 t219 y223 0 a0_0 l0_1 l0_2 l0_3) = some r := by first | (rw [hy223]; with_reducible exact H) | (have H2_ := (Option.bind_some _ _).symm.trans H; rw [hy223]; with_reducible exact H2_) | (have H2_ := (Option.bind_some _ _).symm.trans H; with_reducible exact H2_) | with_reducible exact H | (rw [hy223]; exact H) | exact H
                    have Ny223 := Aside0.mk hy223
                    clear hy223
                    have H' := Aside0.mk H
                    clear H
                    go_enter Try.func4, Try.ntmps4
                    go_wp2_with (first | ((with_reducible refine gate_dst (N := 2) rfl ?_); (try (refine gate_guard (by rfl) ?_; dsimp only)); refine box_event ?hg (N := 2) ?hd (cs := #[.int .i64 a0_0, .slice A0_1 l0_1.length c0_1, .slice A0_2 l0_2.length c0_2, .slice A0_3 l0_3.length c0_3]) (t := 25) ?hr ?_; (case hd => rfl); (case hg => rfl); (case hr => first | (go_simp; done) | (go_simp; rfl)); intro gb197 hg w19 hbox hb; have n0_ := Aside0.mk (below_step (by repeat (first | (with_reducible first | exact HB.out | apply below_alloc | apply pw_below_drewN | apply below_drew1) | exact HB.out)) hb); have n1_ := Aside0.mk (hbox); have n2_ := Aside0.mk ((by rw [hg]; exact (below_size (by repeat (first | (with_reducible first | exact HB.out | apply below_alloc | apply pw_below_drewN | apply below_drew1) | exact HB.out))) : w.heap.size ≤ gb197)); have n3_ := Aside0.mk ((by rw [hg]; exact (below_size (by repeat (first | (with_reducible first | exact HB.out | apply below_alloc | apply pw_below_drewN | apply below_drew1) | exact HB.out))) : w.heap.size ≤ gb197)); clear HB; have HB := n0_; have BK197 := n1_; have GW197 := n2_; have GE197 := n3_; clear n0_ n1_ n2_ n3_; clear hb hbox hg) | (go_at_call 8; (with_reducible refine (lexpriorlaw14_works.calls k  true _ A3.out).mono ?_); rintro e w20 ⟨rfl, hb⟩; have n0_ := Aside0.mk (blk_below (g := gb197) (o := .cells #[.int .i64 a0_0, .slice A0_1 l0_1.length c0_1, .slice A0_2 l0_2.length c0_2, .slice A0_3 l0_3.length c0_3] 25 (0, 0)) (by (with_reducible repeat (first | refine blk_drewN ?_ _ | refine blk_drew ?_ | refine blk_alloc ?_ _)); exact BK197.out) hb); have n1_ := Aside0.mk (below_step (by repeat (first | (with_reducible first | exact HB.out | apply below_alloc | apply pw_below_drewN | apply below_drew1 | refine below_set ?_ GE197.out) | exact HB.out)) hb); clear BK197; clear HB; have BK197 := n0_; have HB := n1_; clear n0_ n1_; (try clear hb); (try clear hb2); (try clear hk); (try clear hi); have hcz21_0 : w20.cell? ⟨gb197, 0, none⟩ = some (.int .i64 a0_0) := (blk_cell BK197.out 0).trans rfl; have hcz21_1 : w20.cell? ⟨gb197, 1, none⟩ = some (.slice A0_1 l0_1.length c0_1) := (blk_cell BK197.out 1).trans rfl; have hcz21_2 : w20.cell? ⟨gb197, 2, none⟩ = some (.slice A0_2 l0_2.length c0_2) := (blk_cell BK197.out 2).trans rfl; have hcz21_3 : w20.cell? ⟨gb197, 3, none⟩ = some (.slice A0_3 l0_3.length c0_3) := (blk_cell BK197.out 3).trans rfl; have hfz21_0 := blk_frozen BK197.out 0; have hfz21_1 := blk_frozen BK197.out 1; have hfz21_2 := blk_frozen BK197.out 2; have hfz21_3 := blk_frozen BK197.out 3) | (go_at_call 9; (with_reducible refine (strict_Plus.calls k a0_0 _ _ l0_1 _ _ l0_2 _ _ l0_3 _ _ l1 t199 t202 _ ?side1 ?side2 ?side3 ?side4 ?side5 ?side6 ?side7 ?side8 A5.out).mono ?_); (case side1 => repeat (first | exact (Kd.C_below HR0_1.out HB.out) | (with_reducible refine Kd.C_alloc ?_ _) | (with_reducible refine Kd.C_drewN ?_ _) | (with_reducible refine Kd.C_drew ?_))); (case side2 => exact HC0_1.out); (case side3 => repeat (first | exact (Kd.C_below HR0_2.out HB.out) | (with_reducible refine Kd.C_alloc ?_ _) | (with_reducible refine Kd.C_drewN ?_ _) | (with_reducible refine Kd.C_drew ?_))); (case side4 => exact HC0_2.out); (case side5 => repeat (first | exact (Kd.C_below HR0_3.out HB.out) | (with_reducible refine Kd.C_alloc ?_ _) | (with_reducible refine Kd.C_drewN ?_ _) | (with_reducible refine Kd.C_drew ?_))); (case side6 => exact HC0_3.out); (case side7 => repeat (first | exact (Kd.C_below HR1.out HB.out) | (with_reducible refine Kd.C_alloc ?_ _) | (with_reducible refine Kd.C_drewN ?_ _) | (with_reducible refine Kd.C_drew ?_))); (case side8 => exact HC1.out); rintro e w22 ⟨v200, rfl, ho0, hb⟩; have n0_ := Aside0.mk (Kd.R_lower ho0 (below_size (by repeat (first | (with_reducible first | exact HB.out | apply below_alloc | apply pw_below_drewN | apply below_drew1 | refine below_set ?_ GE197.out) | exact HB.out)))); have n1_ := Aside0.mk (blk_below (g := gb197) (o := .cells #[.int .i64 a0_0, .slice A0_1 l0_1.length c0_1, .slice A0_2 l0_2.length c0_2, .slice A0_3 l0_3.length c0_3] 25 (0, 0)) (by (with_reducible repeat (first | refine blk_drewN ?_ _ | refine blk_drew ?_ | refine blk_alloc ?_ _)); exact BK197.out) hb); have n2_ := Aside0.mk (below_step (by repeat (first | (with_reducible first | exact HB.out | apply below_alloc | apply pw_below_drewN | apply below_drew1 | refine below_set ?_ GE197.out) | exact HB.out)) hb); clear BK197; clear HB; have HO201 := n0_; have BK197 := n1_; have HB := n2_; clear n0_ n1_ n2_; (try clear hb); (try clear hb2); (try clear hk); (try clear hi); (try clear ho0); have hcz23_0 : w22.cell? ⟨gb197, 0, none⟩ = some (.int .i64 a0_0) := (blk_cell BK197.out 0).trans rfl; have hcz23_1 : w22.cell? ⟨gb197, 1, none⟩ = some (.slice A0_1 l0_1.length c0_1) := (blk_cell BK197.out 1).trans rfl; have hcz23_2 : w22.cell? ⟨gb197, 2, none⟩ = some (.slice A0_2 l0_2.length c0_2) := (blk_cell BK197.out 2).trans rfl; have hcz23_3 : w22.cell? ⟨gb197, 3, none⟩ = some (.slice A0_3 l0_3.length c0_3) := (blk_cell BK197.out 3).trans rfl; have hfz23_0 := blk_frozen BK197.out 0; have hfz23_1 := blk_frozen BK197.out 1; have hfz23_2 := blk_frozen BK197.out 2; have hfz23_3 := blk_frozen BK197.out 3) | (go_at_call 10; (with_reducible refine (strict_Minus.calls k a0_0 _ _ l0_1 _ _ l0_2 _ _ l0_3 _ _ l1 t203 t206 _ ?side1 ?side2 ?side3 ?side4 ?side5 ?side6 ?side7 ?side8 A6.out).mono ?_); (case side1 => repeat (first | exact (Kd.C_below HR0_1.out HB.out) | (with_reducible refine Kd.C_alloc ?_ _) | (with_reducible refine Kd.C_drewN ?_ _) | (with_reducible refine Kd.C_drew ?_))); (case side2 => exact HC0_1.out); (case side3 => repeat (first | exact (Kd.C_below HR0_2.out HB.out) | (with_reducible refine Kd.C_alloc ?_ _) | (with_reducible refine Kd.C_drewN ?_ _) | (with_reducible refine Kd.C_drew ?_))); (case side4 => exact HC0_2.out); (case side5 => repeat (first | exact (Kd.C_below HR0_3.out HB.out) | (with_reducible refine Kd.C_alloc ?_ _) | (with_reducible refine Kd.C_drewN ?_ _) | (with_reducible refine Kd.C_drew ?_))); (case side6 => exact HC0_3.out); (case side7 => repeat (first | exact (Kd.C_below HR1.out HB.out) | (with_reducible refine Kd.C_alloc ?_ _) | (with_reducible refine Kd.C_drewN ?_ _) | (with_reducible refine Kd.C_drew ?_))); (case side8 => exact HC1.out); rintro e w24 ⟨v204, rfl, ho0, hb⟩; have n0_ := Aside0.mk (Kd.R_elder' (by (with_reducible repeat (first | apply Kd.R_alloc | apply Kd.R_drewN | apply Kd.R_drew)); exact HO201.out) (Kd.R_base ho0) hb); have n1_ := Aside0.mk (Kd.R_lower (Kd.R_new' ho0 (Kd.R_lt (by (with_reducible repeat (first | apply Kd.R_alloc | apply Kd.R_drewN | apply Kd.R_drew)); exact HO201.out))) (below_size (by repeat (first | (with_reducible first | exact HB.out | apply below_alloc | apply pw_below_drewN | apply below_drew1 | refine below_set ?_ GE197.out) | exact HB.out)))); have n2_ := Aside0.mk (blk_below (g := gb197) (o := .cells #[.int .i64 a0_0, .slice A0_1 l0_1.length c0_1, .slice A0_2 l0_2.length c0_2, .slice A0_3 l0_3.length c0_3] 25 (0, 0)) (by (with_reducible repeat (first | refine blk_drewN ?_ _ | refine blk_drew ?_ | refine blk_alloc ?_ _)); exact BK197.out) hb); have n3_ := Aside0.mk (below_step (by repeat (first | (with_reducible first | exact HB.out | apply below_alloc | apply pw_below_drewN | apply below_drew1 | refine below_set ?_ GE197.out) | exact HB.out)) hb); clear HO201; clear BK197; clear HB; have HO201 := n0_; have HO205 := n1_; have BK197 := n2_; have HB := n3_; clear n0_ n1_ n2_ n3_; (try clear hb); (try clear hb2); (try clear hk); (try clear hi); (try clear ho0); have hcz25_0 : w24.cell? ⟨gb197, 0, none⟩ = some (.int .i64 a0_0) := (blk_cell BK197.out 0).trans rfl; have hcz25_1 : w24.cell? ⟨gb197, 1, none⟩ = some (.slice A0_1 l0_1.length c0_1) := (blk_cell BK197.out 1).trans rfl; have hcz25_2 : w24.cell? ⟨gb197, 2, none⟩ = some (.slice A0_2 l0_2.length c0_2) := (blk_cell BK197.out 2).trans rfl; have hcz25_3 : w24.cell? ⟨gb197, 3, none⟩ = some (.slice A0_3 l0_3.length c0_3) := (blk_cell BK197.out 3).trans rfl; have hfz25_0 := blk_frozen BK197.out 0; have hfz25_1 := blk_frozen BK197.out 1; have hfz25_2 := blk_frozen BK197.out 2; have hfz25_3 := blk_frozen BK197.out 3) | (go_at_call 12; (with_reducible refine (strict_Neither.calls k a0_0 _ _ l0_1 _ _ l0_2 _ _ l0_3 _ _ l1 t207 t210 _ ?side1 ?side2 ?side3 ?side4 ?side5 ?side6 ?side7 ?side8 A7.out).mono ?_); (case side1 => repeat (first | exact (Kd.C_below HR0_1.out HB.out) | (with_reducible refine Kd.C_alloc ?_ _) | (with_reducible refine Kd.C_drewN ?_ _) | (with_reducible refine Kd.C_drew ?_))); (case side2 => exact HC0_1.out); (case side3 => repeat (first | exact (Kd.C_below HR0_2.out HB.out) | (with_reducible refine Kd.C_alloc ?_ _) | (with_reducible refine Kd.C_drewN ?_ _) | (with_reducible refine Kd.C_drew ?_))); (case side4 => exact HC0_2.out); (case side5 => repeat (first | exact (Kd.C_below HR0_3.out HB.out) | (with_reducible refine Kd.C_alloc ?_ _) | (with_reducible refine Kd.C_drewN ?_ _) | (with_reducible refine Kd.C_drew ?_))); (case side6 => exact HC0_3.out); (case side7 => repeat (first | exact (Kd.C_below HR1.out HB.out) | (with_reducible refine Kd.C_alloc ?_ _) | (with_reducible refine Kd.C_drewN ?_ _) | (with_reducible refine Kd.C_drew ?_))); (case side8 => exact HC1.out); rintro e w26 ⟨v208, rfl, ho0, hb⟩; have n0_ := Aside0.mk (Kd.R_elder' (by (with_reducible repeat (first | apply Kd.R_alloc | apply Kd.R_drewN | apply Kd.R_drew)); exact HO201.out) (Kd.R_base ho0) hb); have n1_ := Aside0.mk (Kd.R_elder' (by (with_reducible repeat (first | apply Kd.R_alloc | apply Kd.R_drewN | apply Kd.R_drew)); exact HO205.out) (Kd.R_base ho0) hb); have n2_ := Aside0.mk (Kd.R_lower (Kd.R_new' (Kd.R_new' ho0 (Kd.R_lt (by (with_reducible repeat (first | apply Kd.R_alloc | apply Kd.R_drewN | apply Kd.R_drew)); exact HO201.out))) (Kd.R_lt (by (with_reducible repeat (first | apply Kd.R_alloc | apply Kd.R_drewN | apply Kd.R_drew)); exact HO205.out))) (below_size (by repeat (first | (with_reducible first | exact HB.out | apply below_alloc | apply pw_below_drewN | apply below_drew1 | refine below_set ?_ GE197.out) | exact HB.out)))); have n3_ := Aside0.mk (blk_below (g := gb197) (o := .cells #[.int .i64 a0_0, .slice A0_1 l0_1.length c0_1, .slice A0_2 l0_2.length c0_2, .slice A0_3 l0_3.length c0_3] 25 (0, 0)) (by (with_reducible repeat (first | refine blk_drewN ?_ _ | refine blk_drew ?_ | refine blk_alloc ?_ _)); exact BK197.out) hb); have n4_ := Aside0.mk (below_step (by repeat (first | (with_reducible first | exact HB.out | apply below_alloc | apply pw_below_drewN | apply below_drew1 | refine below_set ?_ GE197.out) | exact HB.out)) hb); clear HO201; clear HO205; clear BK197; clear HB; have HO201 := n0_; have HO205 := n1_; have HO209 := n2_; have BK197 := n3_; have HB := n4_; clear n0_ n1_ n2_ n3_ n4_; (try clear hb); (try clear hb2); (try clear hk); (try clear hi); (try clear ho0); have hcz27_0 : w26.cell? ⟨gb197, 0, none⟩ = some (.int .i64 a0_0) := (blk_cell BK197.out 0).trans rfl; have hcz27_1 : w26.cell? ⟨gb197, 1, none⟩ = some (.slice A0_1 l0_1.length c0_1) := (blk_cell BK197.out 1).trans rfl; have hcz27_2 : w26.cell? ⟨gb197, 2, none⟩ = some (.slice A0_2 l0_2.length c0_2) := (blk_cell BK197.out 2).trans rfl; have hcz27_3 : w26.cell? ⟨gb197, 3, none⟩ = some (.slice A0_3 l0_3.length c0_3) := (blk_cell BK197.out 3).trans rfl; have hfz27_0 := blk_frozen BK197.out 0; have hfz27_1 := blk_frozen BK197.out 1; have hfz27_2 := blk_frozen BK197.out 2; have hfz27_3 := blk_frozen BK197.out 3; obtain ⟨Ao28, co28, eo28⟩ := Kd.R_slice HO201.out; subst eo28) | (go_at_call 11; (with_reducible refine (lexpriorlaw14_marked.calls a0_0 _ _ t199 t211 true _ ?side1 ?side2 A9.out).mono ?_); (case side1 => repeat (first | exact (Kd.R_reads' HO201.out).2.2 | (with_reducible refine Kd.C_alloc ?_ _) | (with_reducible refine Kd.C_drewN ?_ _) | (with_reducible refine Kd.C_drew ?_))); (case side2 => exact (Kd.R_reads' HO201.out).2.1); rintro e w29 ⟨v213, rfl, ho0, hb⟩; have n0_ := Aside0.mk (Kd.R_below (by (with_reducible repeat (first | apply Kd.R_alloc | apply Kd.R_drewN | apply Kd.R_drew)); exact HO201.out) hb); have n1_ := Aside0.mk (Kd.R_below (by (with_reducible repeat (first | apply Kd.R_alloc | apply Kd.R_drewN | apply Kd.R_drew)); exact HO205.out) hb); have n2_ := Aside0.mk (Kd.R_below (by (with_reducible repeat (first | apply Kd.R_alloc | apply Kd.R_drewN | apply Kd.R_drew)); exact HO209.out) hb); have n3_ := Aside0.mk (Kd.R_lower ho0 (below_size (by repeat (first | (with_reducible first | exact HB.out | apply below_alloc | apply pw_below_drewN | apply below_drew1 | refine below_set ?_ GE197.out) | exact HB.out)))); have n4_ := Aside0.mk (blk_below (g := gb197) (o := .cells #[.int .i64 a0_0, .slice A0_1 l0_1.length c0_1, .slice A0_2 l0_2.length c0_2, .slice A0_3 l0_3.length c0_3] 25 (0, 0)) (by (with_reducible repeat (first | refine blk_drewN ?_ _ | refine blk_drew ?_ | refine blk_alloc ?_ _)); exact BK197.out) hb); have n5_ := Aside0.mk (below_step (by repeat (first | (with_reducible first | exact HB.out | apply below_alloc | apply pw_below_drewN | apply below_drew1 | refine below_set ?_ GE197.out) | exact HB.out)) hb); clear HO201; clear HO205; clear HO209; clear BK197; clear HB; have HO201 := n0_; have HO205 := n1_; have HO209 := n2_; have HO214 := n3_; have BK197 := n4_; have HB := n5_; clear n0_ n1_ n2_ n3_ n4_ n5_; (try clear hb); (try clear hb2); (try clear hk); (try clear hi); (try clear ho0); have hcz30_0 : w29.cell? ⟨gb197, 0, none⟩ = some (.int .i64 a0_0) := (blk_cell BK197.out 0).trans rfl; have hcz30_1 : w29.cell? ⟨gb197, 1, none⟩ = some (.slice A0_1 l0_1.length c0_1) := (blk_cell BK197.out 1).trans rfl; have hcz30_2 : w29.cell? ⟨gb197, 2, none⟩ = some (.slice A0_2 l0_2.length c0_2) := (blk_cell BK197.out 2).trans rfl; have hcz30_3 : w29.cell? ⟨gb197, 3, none⟩ = some (.slice A0_3 l0_3.length c0_3) := (blk_cell BK197.out 3).trans rfl; have hfz30_0 := blk_frozen BK197.out 0; have hfz30_1 := blk_frozen BK197.out 1; have hfz30_2 := blk_frozen BK197.out 2; have hfz30_3 := blk_frozen BK197.out 3; obtain ⟨Ao31, co31, eo31⟩ := Kd.R_slice HO205.out; subst eo31) | (go_at_call 11; (with_reducible refine (lexpriorlaw14_marked.calls a0_0 _ _ t203 t215 true _ ?side1 ?side2 A10.out).mono ?_); (case side1 => repeat (first | exact (Kd.R_reads' HO205.out).2.2 | (with_reducible refine Kd.C_alloc ?_ _) | (with_reducible refine Kd.C_drewN ?_ _) | (with_reducible refine Kd.C_drew ?_))); (case side2 => exact (Kd.R_reads' HO205.out).2.1); rintro e w32 ⟨v217, rfl, ho0, hb⟩; have n0_ := Aside0.mk (Kd.R_below (by (with_reducible repeat (first | apply Kd.R_alloc | apply Kd.R_drewN | apply Kd.R_drew)); exact HO201.out) hb); have n1_ := Aside0.mk (Kd.R_below (by (with_reducible repeat (first | apply Kd.R_alloc | apply Kd.R_drewN | apply Kd.R_drew)); exact HO205.out) hb); have n2_ := Aside0.mk (Kd.R_below (by (with_reducible repeat (first | apply Kd.R_alloc | apply Kd.R_drewN | apply Kd.R_drew)); exact HO209.out) hb); have n3_ := Aside0.mk (Kd.R_elder' (by (with_reducible repeat (first | apply Kd.R_alloc | apply Kd.R_drewN | apply Kd.R_drew)); exact HO214.out) (Kd.R_base ho0) hb); have n4_ := Aside0.mk (Kd.R_lower (Kd.R_new' ho0 (Kd.R_lt (by (with_reducible repeat (first | apply Kd.R_alloc | apply Kd.R_drewN | apply Kd.R_drew)); exact HO214.out))) (below_size (by repeat (first | (with_reducible first | exact HB.out | apply below_alloc | apply pw_below_drewN | apply below_drew1 | refine below_set ?_ GE197.out) | exact HB.out)))); have n5_ := Aside0.mk (blk_below (g := gb197) (o := .cells #[.int .i64 a0_0, .slice A0_1 l0_1.length c0_1, .slice A0_2 l0_2.length c0_2, .slice A0_3 l0_3.length c0_3] 25 (0, 0)) (by (with_reducible repeat (first | refine blk_drewN ?_ _ | refine blk_drew ?_ | refine blk_alloc ?_ _)); exact BK197.out) hb); have n6_ := Aside0.mk (below_step (by repeat (first | (with_reducible first | exact HB.out | apply below_alloc | apply pw_below_drewN | apply below_drew1 | refine below_set ?_ GE197.out) | exact HB.out)) hb); clear HO201; clear HO205; clear HO209; clear HO214; clear BK197; clear HB; have HO201 := n0_; have HO205 := n1_; have HO209 := n2_; have HO214 := n3_; have HO218 := n4_; have BK197 := n5_; have HB := n6_; clear n0_ n1_ n2_ n3_ n4_ n5_ n6_; (try clear hb); (try clear hb2); (try clear hk); (try clear hi); (try clear ho0); obtain ⟨Ao33, co33, eo33⟩ := Kd.R_slice HO209.out; subst eo33; have hcz34_0 : w32.cell? ⟨gb197, 0, none⟩ = some (.int .i64 a0_0) := (blk_cell BK197.out 0).trans rfl; have hcz34_1 : w32.cell? ⟨gb197, 1, none⟩ = some (.slice A0_1 l0_1.length c0_1) := (blk_cell BK197.out 1).trans rfl; have hcz34_2 : w32.cell? ⟨gb197, 2, none⟩ = some (.slice A0_2 l0_2.length c0_2) := (blk_cell BK197.out 2).trans rfl; have hcz34_3 : w32.cell? ⟨gb197, 3, none⟩ = some (.slice A0_3 l0_3.length c0_3) := (blk_cell BK197.out 3).trans rfl; have hfz34_0 := blk_frozen BK197.out 0; have hfz34_1 := blk_frozen BK197.out 1; have hfz34_2 := blk_frozen BK197.out 2; have hfz34_3 := blk_frozen BK197.out 3) | (go_at_call 11; (with_reducible refine (lexpriorlaw14_marked.calls a0_0 _ _ l1 t219 t220 _ ?side1 ?side2 A16.out).mono ?_); (case side1 => repeat (first | exact (Kd.C_below HR1.out HB.out) | (with_reducible refine Kd.C_alloc ?_ _) | (with_reducible refine Kd.C_drewN ?_ _) | (with_reducible refine Kd.C_drew ?_))); (case side2 => exact HC1.out); rintro e w35 ⟨v221, rfl, ho0, hb⟩; have n0_ := Aside0.mk (Kd.R_below (by (with_reducible repeat (first | apply Kd.R_alloc | apply Kd.R_drewN | apply Kd.R_drew)); exact HO201.out) hb); have n1_ := Aside0.mk (Kd.R_below (by (with_reducible repeat (first | apply Kd.R_alloc | apply Kd.R_drewN | apply Kd.R_drew)); exact HO205.out) hb); have n2_ := Aside0.mk (Kd.R_below (by (with_reducible repeat (first | apply Kd.R_alloc | apply Kd.R_drewN | apply Kd.R_drew)); exact HO209.out) hb); have n3_ := Aside0.mk (Kd.R_elder' (by (with_reducible repeat (first | apply Kd.R_alloc | apply Kd.R_drewN | apply Kd.R_drew)); exact HO214.out) (Kd.R_base ho0) hb); have n4_ := Aside0.mk (Kd.R_elder' (by (with_reducible repeat (first | apply Kd.R_alloc | apply Kd.R_drewN | apply Kd.R_drew)); exact HO218.out) (Kd.R_base ho0) hb); have n5_ := Aside0.mk (Kd.R_lower (Kd.R_new' (Kd.R_new' ho0 (Kd.R_lt (by (with_reducible repeat (first | apply Kd.R_alloc | apply Kd.R_drewN | apply Kd.R_drew)); exact HO214.out))) (Kd.R_lt (by (with_reducible repeat (first | apply Kd.R_alloc | apply Kd.R_drewN | apply Kd.R_drew)); exact HO218.out))) (below_size (by repeat (first | (with_reducible first | exact HB.out | apply below_alloc | apply pw_below_drewN | apply below_drew1 | refine below_set ?_ GE197.out) | exact HB.out)))); have n6_ := Aside0.mk (blk_below (g := gb197) (o := .cells #[.int .i64 a0_0, .slice A0_1 l0_1.length c0_1, .slice A0_2 l0_2.length c0_2, .slice A0_3 l0_3.length c0_3] 25 (0, 0)) (by (with_reducible repeat (first | refine blk_drewN ?_ _ | refine blk_drew ?_ | refine blk_alloc ?_ _)); exact BK197.out) hb); have n7_ := Aside0.mk (below_step (by repeat (first | (with_reducible first | exact HB.out | apply below_alloc | apply pw_below_drewN | apply below_drew1 | refine below_set ?_ GE197.out) | exact HB.out)) hb); clear HO201; clear HO205; clear HO209; clear HO214; clear HO218; clear BK197; clear HB; have HO201 := n0_; have HO205 := n1_; have HO209 := n2_; have HO214 := n3_; have HO218 := n4_; have HO222 := n5_; have BK197 := n6_; have HB := n7_; clear n0_ n1_ n2_ n3_ n4_ n5_ n6_ n7_; (try clear hb); (try clear hb2); (try clear hk); (try clear hi); (try clear ho0); have hcz36_0 : w35.cell? ⟨gb197, 0, none⟩ = some (.int .i64 a0_0) := (blk_cell BK197.out 0).trans rfl; have hcz36_1 : w35.cell? ⟨gb197, 1, none⟩ = some (.slice A0_1 l0_1.length c0_1) := (blk_cell BK197.out 1).trans rfl; have hcz36_2 : w35.cell? ⟨gb197, 2, none⟩ = some (.slice A0_2 l0_2.length c0_2) := (blk_cell BK197.out 2).trans rfl; have hcz36_3 : w35.cell? ⟨gb197, 3, none⟩ = some (.slice A0_3 l0_3.length c0_3) := (blk_cell BK197.out 3).trans rfl; have hfz36_0 := blk_frozen BK197.out 0; have hfz36_1 := blk_frozen BK197.out 1; have hfz36_2 := blk_frozen BK197.out 2; have hfz36_3 := blk_frozen BK197.out 3) | ((with_reducible refine gate_dst (N := 116) rfl ?_); (try (refine gate_guard (by rfl) ?_; dsimp only)); refine Kd.R_make (Kd.int .i64) _ 3 rfl (N := 116) rfl 26 _ _ rfl a0_0 rfl rfl Try.underlying26 (.int .i64 0) 8 info3 rfl (by decide) (by omega) 0 (ok := fun _ => True) (okp := fun _ => True) rfl (fun _ hk => hk) trivial (of_decide_eq_true (by first | (with_reducible assumption) | assumption)) (Nat.le_trans (Nat.mul_le_mul_right _ (of_decide_eq_true (by first | (with_reducible assumption) | assumption) : a0_0.toNat ≤ 35184372088832)) (by omega)) (Below.refl _ _) (Nat.le_refl _) ?_; intro v224 w37 ho38 hb hg_ hnew_; clear hg_ hnew_; (first | rw [← Ny223.out] at ho38 | (simp only [Int.reduceToNat] at ho38; rw [← Ny223.out] at ho38)); have n0_ := Aside0.mk (Kd.R_elder' (by (with_reducible repeat (first | apply Kd.R_alloc | apply Kd.R_drewN | apply Kd.R_drew)); exact HO201.out) (Kd.R_base ho38) hb); have n1_ := Aside0.mk (Kd.R_elder' (by (with_reducible repeat (first | apply Kd.R_alloc | apply Kd.R_drewN | apply Kd.R_drew)); exact HO205.out) (Kd.R_base ho38) hb); have n2_ := Aside0.mk (Kd.R_elder' (by (with_reducible repeat (first | apply Kd.R_alloc | apply Kd.R_drewN | apply Kd.R_drew)); exact HO209.out) (Kd.R_base ho38) hb); have n3_ := Aside0.mk (Kd.R_below (by (with_reducible repeat (first | apply Kd.R_alloc | apply Kd.R_drewN | apply Kd.R_drew)); exact HO214.out) hb); have n4_ := Aside0.mk (Kd.R_below (by (with_reducible repeat (first | apply Kd.R_alloc | apply Kd.R_drewN | apply Kd.R_drew)); exact HO218.out) hb); have n5_ := Aside0.mk (Kd.R_below (by (with_reducible repeat (first | apply Kd.R_alloc | apply Kd.R_drewN | apply Kd.R_drew)); exact HO222.out) hb); have n6_ := Aside0.mk (Kd.R_lower (Kd.R_new' (Kd.R_new' (Kd.R_new' ho38 (Kd.R_lt (by (with_reducible repeat (first | apply Kd.R_alloc | apply Kd.R_drewN | apply Kd.R_drew)); exact HO201.out))) (Kd.R_lt (by (with_reducible repeat (first | apply Kd.R_alloc | apply Kd.R_drewN | apply Kd.R_drew)); exact HO205.out))) (Kd.R_lt (by (with_reducible repeat (first | apply Kd.R_alloc | apply Kd.R_drewN | apply Kd.R_drew)); exact HO209.out))) (below_size (by repeat (first | (with_reducible first | exact HB.out | apply below_alloc | apply pw_below_drewN | apply below_drew1 | refine below_set ?_ GE197.out) | exact HB.out)))); have n7_ := Aside0.mk (blk_below (g := gb197) (o := .cells #[.int .i64 a0_0, .slice A0_1 l0_1.length c0_1, .slice A0_2 l0_2.length c0_2, .slice A0_3 l0_3.length c0_3] 25 (0, 0)) (by (with_reducible repeat (first | refine blk_drewN ?_ _ | refine blk_drew ?_ | refine blk_alloc ?_ _)); exact BK197.out) hb); have n8_ := Aside0.mk (below_step (by repeat (first | (with_reducible first | exact HB.out | apply below_alloc | apply pw_below_drewN | apply below_drew1 | refine below_set ?_ GE197.out) | exact HB.out)) hb); clear HO201; clear HO205; clear HO209; clear HO214; clear HO218; clear HO222; clear BK197; clear HB; have HO201 := n0_; have HO205 := n1_; have HO209 := n2_; have HO214 := n3_; have HO218 := n4_; have HO222 := n5_; have HO225 := n6_; have BK197 := n7_; have HB := n8_; clear n0_ n1_ n2_ n3_ n4_ n5_ n6_ n7_ n8_; clear hb ho38))
                    go_loopg [18] k (fun kq v18 w' => ∃ (x17_1 : List Int) (x18_1 : Int), v18 = .int .i64 x18_1 ∧ Aside0 (lexpriorlaw14_StrictConditions.l0 kq t211 t215 t219 x17_1 x18_1 a0_0 l0_1 l0_2 l0_3 = some r) ∧ Aside0 (kq ≤ k) ∧ Aside0 (Kd.R Kd.bool 4 w' w.heap.size (fun k_ => some k_ ≠ (v217 : Value).ownBlock ∧ some k_ ≠ (v221 : Value).ownBlock) v213 t211) ∧ Aside0 (Kd.R Kd.bool 4 w' w.heap.size (fun k_ => some k_ ≠ (v213 : Value).ownBlock ∧ some k_ ≠ (v221 : Value).ownBlock) v217 t215) ∧ Aside0 (Kd.R Kd.bool 4 w' w.heap.size (fun k_ => some k_ ≠ (v213 : Value).ownBlock ∧ some k_ ≠ (v217 : Value).ownBlock) v221 t219) ∧ Aside0 (Kd.R (Kd.int .i64) 3 w' w.heap.size (fun _ => True) v224 x17_1) ∧ Aside0 (w'.heap[gb197]? = some (.cells #[.int .i64 a0_0, (.slice A0_1 l0_1.length c0_1), (.slice A0_2 l0_2.length c0_2), (.slice A0_3 l0_3.length c0_3)] 25 (0, 0))) ∧ Aside0 (Below w.heap.size w w'))
                    case atStart => exact ⟨(y223), (0), (by first | rfl | (simp; done) | (simp [*]; done)), H', ⟨Nat.le_refl _⟩, ⟨by (with_reducible repeat (first | apply Kd.R_alloc | apply Kd.R_drewN | apply Kd.R_drew)); exact Kd.R_mono HO214.out (fun _ hk => ⟨hk.1.2, hk.2⟩)⟩, ⟨by (with_reducible repeat (first | apply Kd.R_alloc | apply Kd.R_drewN | apply Kd.R_drew)); exact Kd.R_mono HO218.out (fun _ hk => ⟨hk.1.2, hk.2⟩)⟩, ⟨by (with_reducible repeat (first | apply Kd.R_alloc | apply Kd.R_drewN | apply Kd.R_drew)); exact Kd.R_mono HO222.out (fun _ hk => ⟨hk.1.2, hk.2⟩)⟩, ⟨by (with_reducible repeat (first | apply Kd.R_alloc | apply Kd.R_drewN | apply Kd.R_drew)); exact Kd.R_mono HO225.out (fun _ hk => trivial)⟩, ⟨by (with_reducible repeat (first | refine blk_drewN ?_ _ | refine blk_drew ?_ | refine blk_alloc ?_ _)); exact BK197.out⟩, ⟨by repeat (first | (with_reducible first | exact HB.out | apply below_alloc | apply pw_below_drewN | apply below_drew1 | refine below_set ?_ GE197.out) | exact HB.out)⟩⟩
                    case round =>
                      clear H'
                      try clear c1
                      try clear p2
                      try clear c4
                      try clear p6
                      try clear c8
                      try clear c8b0
                      try clear c8b1
                      try clear c11
                      try clear c11b0
                      try clear c11b1
                      try clear c12
                      try clear c12b0
                      try clear c12b1
                      try clear c13
                      try clear c14
                      try clear c15
                      try clear c15b0
                      try clear c15b1
                      try clear c17
                      try clear c17b0
                      try clear c17b1
                      try clear c18
                      try clear c18b0
                      try clear c18b1
                      try clear hcz21_0
                      try clear hcz21_1
                      try clear hcz21_2
                      try clear hcz21_3
                      try clear hcz23_0
                      try clear hcz23_1
                      try clear hcz23_2
                      try clear hcz23_3
                      try clear hcz25_0
                      try clear hcz25_1
                      try clear hcz25_2
                      try clear hcz25_3
                      try clear hcz27_0
                      try clear hcz27_1
                      try clear hcz27_2
                      try clear hcz27_3
                      try clear hcz30_0
                      try clear hcz30_1
                      try clear hcz30_2
                      try clear hcz30_3
                      try clear hcz34_0
                      try clear hcz34_1
                      try clear hcz34_2
                      try clear hcz34_3
                      try clear hcz36_0
                      try clear hcz36_1
                      try clear hcz36_2
                      try clear hcz36_3
                      try clear hfz21_0
                      try clear hfz21_1
                      try clear hfz21_2
                      try clear hfz21_3
                      try clear hfz23_0
                      try clear hfz23_1
                      try clear hfz23_2
                      try clear hfz23_3
                      try clear hfz25_0
                      try clear hfz25_1
                      try clear hfz25_2
                      try clear hfz25_3
                      try clear hfz27_0
                      try clear hfz27_1
                      try clear hfz27_2
                      try clear hfz27_3
                      try clear hfz30_0
                      try clear hfz30_1
                      try clear hfz30_2
                      try clear hfz30_3
                      try clear hfz34_0
                      try clear hfz34_1
                      try clear hfz34_2
                      try clear hfz34_3
                      try clear hfz36_0
                      try clear hfz36_1
                      try clear hfz36_2
                      try clear hfz36_3
                      obtain ⟨x17_1, x18_1, rfl, HA, HK1, HO_11, HO_13, HO_15, HO_17, BK197, HB⟩ := hrel
                      cases gk with
                      | zero => exact absurd HA.out (by simp [lexpriorlaw14_StrictConditions.l0])
                      | succ k1 =>
                        have H := HA.out
                        clear HA
                        simp only [lexpriorlaw14_StrictConditions.l0] at H
                        by_cases c39 : x18_1 < a0_0
                        · rw [if_pos c39] at H
                          have c39b0 : decide (x18_1 < a0_0) = true := decide_eq_true c39
                          clear c39
                          by_cases c40 : 0 ≤ x18_1
                          · rw [if_pos c40] at H
                            have c40b0 : decide (0 ≤ x18_1) = true := decide_eq_true c40
                            clear c40
                            by_cases c41 : x18_1 < (t219.length : Int)
                            · rw [if_pos c41] at H
                              have c41b0 : decide (x18_1 < (t219.length : Int)) = true := decide_eq_true c41
                              clear c41
                              obtain ⟨bq42, hbq42⟩ : ∃ b_ : Bool, b_ = (rdOf false t219 x18_1) := ⟨_, rfl⟩
                              replace H : (if bq42 = true then (if x18_1 < (x17_1.length : Int) then (lexpriorlaw14_StrictConditions.l0 k1 t211 t215 t219 (x17_1.set (x18_1 : Int).toNat 1) (wrap64 (x18_1 + 1)) a0_0 l0_1 l0_2 l0_3) else (none)) else (lexpriorlaw14_StrictConditions.l0 k1 t211 t215 t219 x17_1 (wrap64 (x18_1 + 1)) a0_0 l0_1 l0_2 l0_3)) = some r := by rw [← hbq42] at H; exact H
                              have Nbq42 := Aside0.mk hbq42
                              clear hbq42
                              by_cases c43 : bq42 = true
                              · subst c43
                                have H1 : (if x18_1 < (x17_1.length : Int) then (lexpriorlaw14_StrictConditions.l0 k1 t211 t215 t219 (x17_1.set (x18_1 : Int).toNat 1) (wrap64 (x18_1 + 1)) a0_0 l0_1 l0_2 l0_3) else (none)) = some r := by rw [if_pos rfl] at H; exact H
                                clear H
                                have H := H1
                                clear H1
                                by_cases c44 : x18_1 < (x17_1.length : Int)
                                · rw [if_pos c44] at H
                                  have c44b0 : decide (x18_1 < (x17_1.length : Int)) = true := decide_eq_true c44
                                  clear c44
                                  obtain ⟨y227, hy227⟩ : ∃ y_ : List Int, y_ = (x17_1.set (x18_1 : Int).toNat 1) := ⟨_, rfl⟩
                                  replace H : (lexpriorlaw14_StrictConditions.l0 k1 t211 t215 t219 y227 (wrap64 (x18_1 + 1)) a0_0 l0_1 l0_2 l0_3) = some r := by first | (rw [hy227]; with_reducible exact H) | (have H2_ := (Option.bind_some _ _).symm.trans H; rw [hy227]; with_reducible exact H2_) | (have H2_ := (Option.bind_some _ _).symm.trans H; with_reducible exact H2_) | with_reducible exact H | (rw [hy227]; exact H) | exact H
                                  have Ny227 := Aside0.mk hy227
                                  clear hy227
                                  have H' := Aside0.mk H
                                  clear H
                                  have hcz46_0 : wr.cell? ⟨gb197, 0, none⟩ = some (.int .i64 a0_0) := (blk_cell BK197.out 0).trans rfl
                                  have hcz46_1 : wr.cell? ⟨gb197, 1, none⟩ = some (.slice A0_1 l0_1.length c0_1) := (blk_cell BK197.out 1).trans rfl
                                  have hcz46_2 : wr.cell? ⟨gb197, 2, none⟩ = some (.slice A0_2 l0_2.length c0_2) := (blk_cell BK197.out 2).trans rfl
                                  have hcz46_3 : wr.cell? ⟨gb197, 3, none⟩ = some (.slice A0_3 l0_3.length c0_3) := (blk_cell BK197.out 3).trans rfl
                                  have hfz46_0 := blk_frozen BK197.out 0
                                  have hfz46_1 := blk_frozen BK197.out 1
                                  have hfz46_2 := blk_frozen BK197.out 2
                                  have hfz46_3 := blk_frozen BK197.out 3
                                  obtain ⟨Ao47, co47, eo47⟩ := Kd.R_slice HO_15.out
                                  subst eo47
                                  have p226 : 0 ≤ (x18_1 : Int) := of_decide_eq_true (by first | (with_reducible assumption) | assumption)
                                  have q226 : x18_1 < (t219.length : Int) := of_decide_eq_true (by first | (with_reducible assumption) | assumption)
                                  obtain ⟨ad226, e226, hx226_0⟩ := Kd.at_bool (Kd.R_reads' HO_15.out).2.2 x18_1 p226 q226
                                  (try rw [← Nbq42.out] at hx226_0)
                                  cases e226
                                  replace p226 := eq_true p226
                                  replace q226 := eq_true q226
                                  have p45 : 0 ≤ (x18_1 : Int) := of_decide_eq_true (by first | (with_reducible assumption) | assumption)
                                  have q45 : (x18_1 : Int) < ((x17_1.length : Int) : Int) := of_decide_eq_true (by first | (with_reducible assumption) | assumption)
                                  obtain ⟨go45, co45, eo45, gb45, gl45, cl45, HG45⟩ := Kd.R_form HO_17.out (by omega)
                                  (first | cases eo45 | (injection eo45 with ea_ en_ ec_; (first | subst ea_ | (injection ea_ with ea_; subst ea_)); subst ec_; clear en_))
                                  have GB45 := Aside0.mk gb45
                                  have GG45 := Aside0.mk HG45
                                  clear gb45 gl45 HG45
                                  obtain ⟨hx45_0, hf45_0⟩ := Kd.R_celln 0 HO_17.out (x18_1 : Int) p45 q45
                                  replace p45 := eq_true p45
                                  replace q45 := eq_true q45
                                  have HP48 := Kd.R_putg HO_17.out (x18_1 : Int) 1
                                  go_wp2_with (first | ((with_reducible refine gate_store (t := 3) (p := 129) rfl ?_); (try (rw [drewN_self wr]; generalize hq_ : World.drewN wr _ = wr; have n0_ := Aside0.mk (Kd.R_at hq_ HO_11.out); have n1_ := Aside0.mk (Kd.R_at hq_ HO_13.out); have n2_ := Aside0.mk (Kd.R_at hq_ HO_15.out); have n3_ := Aside0.mk (Kd.R_at hq_ HO_17.out); have n4_ := Aside0.mk (blk_at hq_ BK197.out); have n5_ := Aside0.mk (below_at hq_ HB.out); clear hq_ HO_11 HO_13 HO_15 HO_17 BK197 HB; have HO_11 := n0_; have HO_13 := n1_; have HO_15 := n2_; have HO_17 := n3_; have BK197 := n4_; have HB := n5_; clear n0_ n1_ n2_ n3_ n4_ n5_; (try (have HP48 := Kd.R_putg HO_17.out (x18_1 : Int) 1)))); refine store_event (t := 3) (p := 129) (v := ?vo_w49) (w1 := (wr.setCell ⟨go45, (x18_1 : Int).toNat, none⟩ (.int .i64 1))) ?hg ?ho ?hn ?hr ?_; (case ho => rfl); (case hg => rfl); (case hn => rfl); (case hr => first | (go_simp; done) | (go_simp; rfl)); intro w49 hw; have hg : wr.grownBy w49 (some go45) := (by rw [hw]; exact HP48.2); have hp_ : Kd.R (Kd.int .i64) 3 w49 w.heap.size (fun _ => True) (.slice (some ⟨go45, 0, none⟩) x17_1.length co45) y227 := (by rw [hw, Ny227.out]; exact HP48.1); clear HP48; have n0_ := Aside0.mk (Kd.R_over' (v := (.slice (some ⟨go45, 0, none⟩) x17_1.length co45)) (by (with_reducible repeat (first | apply Kd.R_alloc | apply Kd.R_drewN | apply Kd.R_drew)); exact HO_11.out) (Kd.R_typed HO_17.out) (by decide) hg); have n1_ := Aside0.mk (Kd.R_over' (v := (.slice (some ⟨go45, 0, none⟩) x17_1.length co45)) (by (with_reducible repeat (first | apply Kd.R_alloc | apply Kd.R_drewN | apply Kd.R_drew)); exact HO_13.out) (Kd.R_typed HO_17.out) (by decide) hg); have n2_ := Aside0.mk (Kd.R_over' (v := (.slice (some ⟨go45, 0, none⟩) x17_1.length co45)) (by (with_reducible repeat (first | apply Kd.R_alloc | apply Kd.R_drewN | apply Kd.R_drew)); exact HO_15.out) (Kd.R_typed HO_17.out) (by decide) hg); have n3_ := Aside0.mk (hp_); have n4_ := Aside0.mk (blk_grown (g := gb197) (o := .cells #[.int .i64 a0_0, .slice A0_1 l0_1.length c0_1, .slice A0_2 l0_2.length c0_2, .slice A0_3 l0_3.length c0_3] 25 (0, 0)) (by (with_reducible repeat (first | refine blk_drewN ?_ _ | refine blk_drew ?_ | refine blk_alloc ?_ _)); exact BK197.out) hg (Kd.R_ne HO_17.out BK197.out (by decide))); have n5_ := Aside0.mk ((by rw [hw]; exact below_set (HB.out) GB45.out : Below w.heap.size w w49)); clear HO_11; clear HO_13; clear HO_15; clear HO_17; clear BK197; clear HB; have HO_11 := n0_; have HO_13 := n1_; have HO_15 := n2_; have HO_17 := n3_; have BK197 := n4_; have HB := n5_; clear n0_ n1_ n2_ n3_ n4_ n5_; clear hg hw hp_))
                                  go_roundg k1
                                  case measure => have := HK1.out; omega
                                  case rel => exact ⟨(y227), (wrap64 (x18_1 + 1)), (by first | rfl | (simp; done) | (simp [*]; done)), H', ⟨by have := HK1.out; omega⟩, ⟨by (with_reducible repeat (first | apply Kd.R_alloc | apply Kd.R_drewN | apply Kd.R_drew)); exact HO_11.out⟩, ⟨by (with_reducible repeat (first | apply Kd.R_alloc | apply Kd.R_drewN | apply Kd.R_drew)); exact HO_13.out⟩, ⟨by (with_reducible repeat (first | apply Kd.R_alloc | apply Kd.R_drewN | apply Kd.R_drew)); exact HO_15.out⟩, ⟨by (with_reducible repeat (first | apply Kd.R_alloc | apply Kd.R_drewN | apply Kd.R_drew)); exact HO_17.out⟩, ⟨by (with_reducible repeat (first | refine blk_drewN ?_ _ | refine blk_drew ?_ | refine blk_alloc ?_ _)); exact BK197.out⟩, ⟨by repeat (first | (with_reducible first | exact HB.out | apply below_alloc | apply pw_below_drewN | apply below_drew1 | refine below_set ?_ GE197.out) | exact HB.out)⟩⟩
                                · rw [if_neg c44] at H
                                  exact absurd H (by simp)
                              · replace c43 := Bool.eq_false_iff.mpr c43
                                subst c43
                                have H1 : (lexpriorlaw14_StrictConditions.l0 k1 t211 t215 t219 x17_1 (wrap64 (x18_1 + 1)) a0_0 l0_1 l0_2 l0_3) = some r := by rw [if_neg (show ¬ (false = true) by decide)] at H; exact H
                                clear H
                                have H := H1
                                clear H1
                                have H' := Aside0.mk H
                                clear H
                                have hcz50_0 : wr.cell? ⟨gb197, 0, none⟩ = some (.int .i64 a0_0) := (blk_cell BK197.out 0).trans rfl
                                have hcz50_1 : wr.cell? ⟨gb197, 1, none⟩ = some (.slice A0_1 l0_1.length c0_1) := (blk_cell BK197.out 1).trans rfl
                                have hcz50_2 : wr.cell? ⟨gb197, 2, none⟩ = some (.slice A0_2 l0_2.length c0_2) := (blk_cell BK197.out 2).trans rfl
                                have hcz50_3 : wr.cell? ⟨gb197, 3, none⟩ = some (.slice A0_3 l0_3.length c0_3) := (blk_cell BK197.out 3).trans rfl
                                have hfz50_0 := blk_frozen BK197.out 0
                                have hfz50_1 := blk_frozen BK197.out 1
                                have hfz50_2 := blk_frozen BK197.out 2
                                have hfz50_3 := blk_frozen BK197.out 3
                                obtain ⟨Ao51, co51, eo51⟩ := Kd.R_slice HO_15.out
                                subst eo51
                                have p226 : 0 ≤ (x18_1 : Int) := of_decide_eq_true (by first | (with_reducible assumption) | assumption)
                                have q226 : x18_1 < (t219.length : Int) := of_decide_eq_true (by first | (with_reducible assumption) | assumption)
                                obtain ⟨ad226, e226, hx226_0⟩ := Kd.at_bool (Kd.R_reads' HO_15.out).2.2 x18_1 p226 q226
                                (try rw [← Nbq42.out] at hx226_0)
                                cases e226
                                replace p226 := eq_true p226
                                replace q226 := eq_true q226
                                go_wp2
                                repeat (go_quiet (fail); try go_wp2)
                                go_roundg k1
                                case measure => have := HK1.out; omega
                                case rel => exact ⟨(x17_1), (wrap64 (x18_1 + 1)), (by first | rfl | (simp; done) | (simp [*]; done)), H', ⟨by have := HK1.out; omega⟩, ⟨by (with_reducible repeat (first | apply Kd.R_alloc | apply Kd.R_drewN | apply Kd.R_drew)); exact HO_11.out⟩, ⟨by (with_reducible repeat (first | apply Kd.R_alloc | apply Kd.R_drewN | apply Kd.R_drew)); exact HO_13.out⟩, ⟨by (with_reducible repeat (first | apply Kd.R_alloc | apply Kd.R_drewN | apply Kd.R_drew)); exact HO_15.out⟩, ⟨by (with_reducible repeat (first | apply Kd.R_alloc | apply Kd.R_drewN | apply Kd.R_drew)); exact HO_17.out⟩, ⟨by (with_reducible repeat (first | refine blk_drewN ?_ _ | refine blk_drew ?_ | refine blk_alloc ?_ _)); exact BK197.out⟩, ⟨by repeat (first | (with_reducible first | exact HB.out | apply below_alloc | apply pw_below_drewN | apply below_drew1 | refine below_set ?_ GE197.out) | exact HB.out)⟩⟩
                            · rw [if_neg c41] at H
                              exact absurd H (by simp)
                          · rw [if_neg c40] at H
                            exact absurd H (by simp)
                        · rw [if_neg c39] at H
                          have c39b0 : decide (x18_1 < a0_0) = false := decide_eq_false c39
                          clear c39
                          have H' := Aside0.mk H
                          clear H
                          have hcz52_0 : wr.cell? ⟨gb197, 0, none⟩ = some (.int .i64 a0_0) := (blk_cell BK197.out 0).trans rfl
                          have hcz52_1 : wr.cell? ⟨gb197, 1, none⟩ = some (.slice A0_1 l0_1.length c0_1) := (blk_cell BK197.out 1).trans rfl
                          have hcz52_2 : wr.cell? ⟨gb197, 2, none⟩ = some (.slice A0_2 l0_2.length c0_2) := (blk_cell BK197.out 2).trans rfl
                          have hcz52_3 : wr.cell? ⟨gb197, 3, none⟩ = some (.slice A0_3 l0_3.length c0_3) := (blk_cell BK197.out 3).trans rfl
                          have hfz52_0 := blk_frozen BK197.out 0
                          have hfz52_1 := blk_frozen BK197.out 1
                          have hfz52_2 := blk_frozen BK197.out 2
                          have hfz52_3 := blk_frozen BK197.out 3
                          go_wp2
                          repeat (go_quiet (fail); try go_wp2)
                          go_loopg [19] k1 (fun kq v19 w' => ∃ (x17_2 : List Int) (x19_2 : Int), v19 = .int .i64 x19_2 ∧ Aside0 (lexpriorlaw14_StrictConditions.l1 kq t211 t215 x17_2 x19_2 a0_0 l0_1 l0_2 l0_3 = some r) ∧ Aside0 (kq ≤ k1) ∧ Aside0 (Kd.R Kd.bool 4 w' w.heap.size (fun k_ => some k_ ≠ (v217 : Value).ownBlock) v213 t211) ∧ Aside0 (Kd.R Kd.bool 4 w' w.heap.size (fun k_ => some k_ ≠ (v213 : Value).ownBlock) v217 t215) ∧ Aside0 (Kd.R (Kd.int .i64) 3 w' w.heap.size (fun _ => True) v224 x17_2) ∧ Aside0 (w'.heap[gb197]? = some (.cells #[.int .i64 a0_0, (.slice A0_1 l0_1.length c0_1), (.slice A0_2 l0_2.length c0_2), (.slice A0_3 l0_3.length c0_3)] 25 (0, 0))) ∧ Aside0 (Below w.heap.size w w'))
                          case atStart => exact ⟨(x17_1), (0), (by first | rfl | (simp; done) | (simp [*]; done)), H', ⟨Nat.le_refl _⟩, ⟨by (with_reducible repeat (first | apply Kd.R_alloc | apply Kd.R_drewN | apply Kd.R_drew)); exact Kd.R_mono HO_11.out (fun _ hk => hk.1)⟩, ⟨by (with_reducible repeat (first | apply Kd.R_alloc | apply Kd.R_drewN | apply Kd.R_drew)); exact Kd.R_mono HO_13.out (fun _ hk => hk.1)⟩, ⟨by (with_reducible repeat (first | apply Kd.R_alloc | apply Kd.R_drewN | apply Kd.R_drew)); exact HO_17.out⟩, ⟨by (with_reducible repeat (first | refine blk_drewN ?_ _ | refine blk_drew ?_ | refine blk_alloc ?_ _)); exact BK197.out⟩, ⟨by repeat (first | (with_reducible first | exact HB.out | apply below_alloc | apply pw_below_drewN | apply below_drew1 | refine below_set ?_ GE197.out) | exact HB.out)⟩⟩
                          case round =>
                            clear H'
                            try clear c1
                            try clear p2
                            try clear q2
                            try clear hx2
                            try clear c3
                            try clear c4
                            try clear p4
                            try clear q4
                            try clear hx4
                            try clear hf4
                            try clear p6
                            try clear c8
                            try clear c8b0
                            try clear c8b1
                            try clear c11
                            try clear c11b0
                            try clear c11b1
                            try clear c12
                            try clear c12b0
                            try clear c12b1
                            try clear c13
                            try clear c14
                            try clear c15
                            try clear c15b0
                            try clear c15b1
                            try clear c17
                            try clear c17b0
                            try clear c17b1
                            try clear c18
                            try clear c18b0
                            try clear c18b1
                            try clear p22
                            try clear q22
                            try clear hx22
                            try clear c39
                            try clear c39b0
                            try clear c40
                            try clear c40b0
                            try clear c41
                            try clear c41b0
                            try clear q42
                            try clear c43
                            try clear c44
                            try clear c44b0
                            try clear p45
                            try clear q45
                            try clear hx45
                            try clear hf45
                            try clear hcz21_0
                            try clear hcz21_1
                            try clear hcz21_2
                            try clear hcz21_3
                            try clear hcz23_0
                            try clear hcz23_1
                            try clear hcz23_2
                            try clear hcz23_3
                            try clear hcz25_0
                            try clear hcz25_1
                            try clear hcz25_2
                            try clear hcz25_3
                            try clear hcz27_0
                            try clear hcz27_1
                            try clear hcz27_2
                            try clear hcz27_3
                            try clear hcz30_0
                            try clear hcz30_1
                            try clear hcz30_2
                            try clear hcz30_3
                            try clear hcz34_0
                            try clear hcz34_1
                            try clear hcz34_2
                            try clear hcz34_3
                            try clear hcz36_0
                            try clear hcz36_1
                            try clear hcz36_2
                            try clear hcz36_3
                            try clear hcz46_0
                            try clear hcz46_1
                            try clear hcz46_2
                            try clear hcz46_3
                            try clear hcz50_0
                            try clear hcz50_1
                            try clear hcz50_2
                            try clear hcz50_3
                            try clear hcz52_0
                            try clear hcz52_1
                            try clear hcz52_2
                            try clear hcz52_3
                            try clear hfz21_0
                            try clear hfz21_1
                            try clear hfz21_2
                            try clear hfz21_3
                            try clear hfz23_0
                            try clear hfz23_1
                            try clear hfz23_2
                            try clear hfz23_3
                            try clear hfz25_0
                            try clear hfz25_1
                            try clear hfz25_2
                            try clear hfz25_3
                            try clear hfz27_0
                            try clear hfz27_1
                            try clear hfz27_2
                            try clear hfz27_3
                            try clear hfz30_0
                            try clear hfz30_1
                            try clear hfz30_2
                            try clear hfz30_3
                            try clear hfz34_0
                            try clear hfz34_1
                            try clear hfz34_2
                            try clear hfz34_3
                            try clear hfz36_0
                            try clear hfz36_1
                            try clear hfz36_2
                            try clear hfz36_3
                            try clear hfz46_0
                            try clear hfz46_1
                            try clear hfz46_2
                            try clear hfz46_3
                            try clear hfz50_0
                            try clear hfz50_1
                            try clear hfz50_2
                            try clear hfz50_3
                            try clear hfz52_0
                            try clear hfz52_1
                            try clear hfz52_2
                            try clear hfz52_3
                            try clear hx226_0
                            try clear hx45_0
                            try clear p2
                            try clear p226
                            try clear p45
                            try clear p6
                            try clear q226
                            try clear q45
                            obtain ⟨x17_2, x19_2, rfl, HA, HK2, HO_11, HO_13, HO_17, BK197, HB⟩ := hrel
                            cases gk with
                            | zero => exact absurd HA.out (by simp [lexpriorlaw14_StrictConditions.l1])
                            | succ k2 =>
                              have H := HA.out
                              clear HA
                              simp only [lexpriorlaw14_StrictConditions.l1] at H
                              by_cases c53 : x19_2 < (l0_2.length : Int)
                              · rw [if_pos c53] at H
                                have c53b0 : decide (x19_2 < (l0_2.length : Int)) = true := decide_eq_true c53
                                clear c53
                                by_cases c54 : 0 ≤ x19_2
                                · rw [if_pos c54] at H
                                  have c54b0 : decide (0 ≤ x19_2) = true := decide_eq_true c54
                                  clear c54
                                  by_cases c55 : ((rd_T37 l0_2 x19_2).f0) = 1
                                  · rw [if_pos c55] at H
                                    have c55b0 : (((rd_T37 l0_2 x19_2).f0) == 1) = true := beq_iff_eq.mpr c55
                                    have c55b1 : (((rd_T37 l0_2 x19_2).f0) != 1) = false := bne_eq_false_iff_eq.mpr c55
                                    clear c55
                                    have H' := Aside0.mk H
                                    clear H
                                    have hcz56_0 : wr.cell? ⟨gb197, 0, none⟩ = some (.int .i64 a0_0) := (blk_cell BK197.out 0).trans rfl
                                    have hcz56_1 : wr.cell? ⟨gb197, 1, none⟩ = some (.slice A0_1 l0_1.length c0_1) := (blk_cell BK197.out 1).trans rfl
                                    have hcz56_2 : wr.cell? ⟨gb197, 2, none⟩ = some (.slice A0_2 l0_2.length c0_2) := (blk_cell BK197.out 2).trans rfl
                                    have hcz56_3 : wr.cell? ⟨gb197, 3, none⟩ = some (.slice A0_3 l0_3.length c0_3) := (blk_cell BK197.out 3).trans rfl
                                    have hfz56_0 := blk_frozen BK197.out 0
                                    have hfz56_1 := blk_frozen BK197.out 1
                                    have hfz56_2 := blk_frozen BK197.out 2
                                    have hfz56_3 := blk_frozen BK197.out 3
                                    have p228 : 0 ≤ (x19_2 : Int) := of_decide_eq_true (by first | (with_reducible assumption) | assumption)
                                    have q228 : x19_2 < (l0_2.length : Int) := of_decide_eq_true (by first | (with_reducible assumption) | assumption)
                                    obtain ⟨ad228, A228_2, c228_2, e228, hx228_0, hx228_1, hx228_2, hl228_2, hi228_2⟩ := at_T37 HR0_2.out x19_2 p228 q228
                                    cases e228
                                    replace hx228_0 := (HB.out.cell (World.block_lt_of_cell? w _ hx228_0)).trans hx228_0
                                    replace hx228_1 := (HB.out.cell (World.block_lt_of_cell? w _ hx228_1)).trans hx228_1
                                    replace hx228_2 := (HB.out.cell (World.block_lt_of_cell? w _ hx228_2)).trans hx228_2
                                    have HR228_2 := Aside0.mk hi228_2
                                    have HC228_2 := Aside0.mk hl228_2
                                    clear hi228_2 hl228_2
                                    replace p228 := eq_true p228
                                    replace q228 := eq_true q228
                                    go_wp2_with (first | ((with_reducible refine gate_dst (N := 20) rfl ?_); (try (refine gate_guard (by rfl) ?_; dsimp only)); refine box_event ?hg (N := 20) ?hd (cs := #[.int .i64 0, .int .i64 0, .slice none 0 0]) (t := 37) ?hr ?_; (case hd => rfl); (case hg => rfl); (case hr => first | (go_simp; done) | (go_simp; rfl)); intro gb229 hg w57 hbox hb; have n0_ := Aside0.mk (Kd.R_below (by (with_reducible repeat (first | apply Kd.R_alloc | apply Kd.R_drewN | apply Kd.R_drew)); exact HO_11.out) hb); have n1_ := Aside0.mk (Kd.R_below (by (with_reducible repeat (first | apply Kd.R_alloc | apply Kd.R_drewN | apply Kd.R_drew)); exact HO_13.out) hb); have n2_ := Aside0.mk (Kd.R_below (by (with_reducible repeat (first | apply Kd.R_alloc | apply Kd.R_drewN | apply Kd.R_drew)); exact HO_17.out) hb); have n3_ := Aside0.mk (blk_below (g := gb197) (o := .cells #[.int .i64 a0_0, .slice A0_1 l0_1.length c0_1, .slice (some ad228) l0_2.length c0_2, .slice A0_3 l0_3.length c0_3] 25 (0, 0)) (by (with_reducible repeat (first | refine blk_drewN ?_ _ | refine blk_drew ?_ | refine blk_alloc ?_ _)); exact BK197.out) hb); have n4_ := Aside0.mk (below_step (by repeat (first | (with_reducible first | exact HB.out | apply below_alloc | apply pw_below_drewN | apply below_drew1 | refine below_set ?_ GE197.out) | exact HB.out)) hb); have n5_ := Aside0.mk (hbox); have n6_ := Aside0.mk ((by rw [hg]; exact (below_size (by repeat (first | (with_reducible first | exact HB.out | apply below_alloc | apply pw_below_drewN | apply below_drew1 | refine below_set ?_ GE197.out) | exact HB.out))) : w.heap.size ≤ gb229)); have n7_ := Aside0.mk ((by rw [hg]; exact (below_size (by repeat (first | (with_reducible first | exact HB.out | apply below_alloc | apply pw_below_drewN | apply below_drew1 | refine below_set ?_ GE197.out) | exact HB.out))) : w.heap.size ≤ gb229)); have n8_ := Aside0.mk ((by rw [hg]; exact Nat.ne_of_lt (blk_lt (g := gb197) (o := .cells #[.int .i64 a0_0, .slice A0_1 l0_1.length c0_1, .slice (some ad228) l0_2.length c0_2, .slice A0_3 l0_3.length c0_3] 25 (0, 0)) (by (with_reducible repeat (first | refine blk_drewN ?_ _ | refine blk_drew ?_ | refine blk_alloc ?_ _)); exact BK197.out)) : gb197 ≠ gb229)); have n9_ := Aside0.mk ((by rw [hg]; exact Nat.ne_of_gt (blk_lt (g := gb197) (o := .cells #[.int .i64 a0_0, .slice A0_1 l0_1.length c0_1, .slice (some ad228) l0_2.length c0_2, .slice A0_3 l0_3.length c0_3] 25 (0, 0)) (by (with_reducible repeat (first | refine blk_drewN ?_ _ | refine blk_drew ?_ | refine blk_alloc ?_ _)); exact BK197.out)) : gb229 ≠ gb197)); clear HO_11; clear HO_13; clear HO_17; clear BK197; clear HB; have HO_11 := n0_; have HO_13 := n1_; have HO_17 := n2_; have BK197 := n3_; have HB := n4_; have BK229 := n5_; have GW229 := n6_; have GE229 := n7_; have NB197_229 := n8_; have NB229_197 := n9_; clear n0_ n1_ n2_ n3_ n4_ n5_ n6_ n7_ n8_ n9_; clear hb hbox hg; have hnb58 := NB229_197.out; have hnc58 := NB197_229.out; have hcz59_0 : w57.cell? ⟨gb229, 0, none⟩ = some (.int .i64 0) := (blk_cell BK229.out 0).trans rfl; have hcz59_1 : w57.cell? ⟨gb229, 1, none⟩ = some (.int .i64 0) := (blk_cell BK229.out 1).trans rfl; have hcz59_2 : w57.cell? ⟨gb229, 2, none⟩ = some (.slice none 0 0) := (blk_cell BK229.out 2).trans rfl; have hfz59_0 := blk_frozen BK229.out 0; have hfz59_1 := blk_frozen BK229.out 1; have hfz59_2 := blk_frozen BK229.out 2))
                                    go_loopg [21, 22, 23] k2 (fun kq v21 v22 v23 w' => ∃ (x21_3 : Bool) (x22_3 : Bool) (x23_3 : Int), v21 = .bool x21_3 ∧ v22 = .bool x22_3 ∧ v23 = .int .i64 x23_3 ∧ Aside0 (lexpriorlaw14_StrictConditions.l2 kq t211 t215 x17_2 x19_2 x21_3 x22_3 x23_3 a0_0 l0_1 l0_2 l0_3 ((rd_T37 l0_2 x19_2).f0) ((rd_T37 l0_2 x19_2).f1) ((rd_T37 l0_2 x19_2).f2) = some r) ∧ Aside0 (kq ≤ k2) ∧ Aside0 (Kd.R Kd.bool 4 w' w.heap.size (fun k_ => some k_ ≠ (v217 : Value).ownBlock) v213 t211) ∧ Aside0 (Kd.R Kd.bool 4 w' w.heap.size (fun k_ => some k_ ≠ (v213 : Value).ownBlock) v217 t215) ∧ Aside0 (Kd.R (Kd.int .i64) 3 w' w.heap.size (fun _ => True) v224 x17_2) ∧ Aside0 (w'.heap[gb197]? = some (.cells #[.int .i64 a0_0, (.slice A0_1 l0_1.length c0_1), (.slice (some ad228) l0_2.length c0_2), (.slice A0_3 l0_3.length c0_3)] 25 (0, 0))) ∧ Aside0 (w'.heap[gb229]? = some (.cells #[.int .i64 ((rd_T37 l0_2 x19_2).f0), .int .i64 ((rd_T37 l0_2 x19_2).f1), (.slice A228_2 ((rd_T37 l0_2 x19_2).f2).length c228_2)] 37 (0, 0))) ∧ Aside0 (Below w.heap.size w w'))
                                    case atStart => exact ⟨(true), (false), (0), (by first | rfl | (simp; done) | (simp [*]; done)), (by first | rfl | (simp; done) | (simp [*]; done)), (by first | rfl | (simp; done) | (simp [*]; done)), H', ⟨Nat.le_refl _⟩, ⟨by (with_reducible repeat (first | apply Kd.R_alloc | apply Kd.R_drewN | apply Kd.R_drew)); exact Kd.R_mono (Kd.R_far (p := ⟨gb229, 2, none⟩) (Kd.R_far (p := ⟨gb229, 1, none⟩) (Kd.R_far (p := ⟨gb229, 0, none⟩) (Kd.R_types HO_11.out BK229.out (by decide)) (fun _ hk => hk.2) (.int .i64 ((rd_T37 l0_2 x19_2).f0))) (fun _ hk => hk.2) (.int .i64 ((rd_T37 l0_2 x19_2).f1))) (fun _ hk => hk.2) (.slice A228_2 ((rd_T37 l0_2 x19_2).f2).length c228_2)) (fun _ hk => hk.1)⟩, ⟨by (with_reducible repeat (first | apply Kd.R_alloc | apply Kd.R_drewN | apply Kd.R_drew)); exact Kd.R_mono (Kd.R_far (p := ⟨gb229, 2, none⟩) (Kd.R_far (p := ⟨gb229, 1, none⟩) (Kd.R_far (p := ⟨gb229, 0, none⟩) (Kd.R_types HO_13.out BK229.out (by decide)) (fun _ hk => hk.2) (.int .i64 ((rd_T37 l0_2 x19_2).f0))) (fun _ hk => hk.2) (.int .i64 ((rd_T37 l0_2 x19_2).f1))) (fun _ hk => hk.2) (.slice A228_2 ((rd_T37 l0_2 x19_2).f2).length c228_2)) (fun _ hk => hk.1)⟩, ⟨by (with_reducible repeat (first | apply Kd.R_alloc | apply Kd.R_drewN | apply Kd.R_drew)); exact Kd.R_mono (Kd.R_far (p := ⟨gb229, 2, none⟩) (Kd.R_far (p := ⟨gb229, 1, none⟩) (Kd.R_far (p := ⟨gb229, 0, none⟩) (Kd.R_types HO_17.out BK229.out (by decide)) (fun _ hk => hk.2) (.int .i64 ((rd_T37 l0_2 x19_2).f0))) (fun _ hk => hk.2) (.int .i64 ((rd_T37 l0_2 x19_2).f1))) (fun _ hk => hk.2) (.slice A228_2 ((rd_T37 l0_2 x19_2).f2).length c228_2)) (fun _ hk => trivial)⟩, ⟨by (with_reducible repeat (first | refine blk_drewN ?_ _ | refine blk_drew ?_ | refine blk_alloc ?_ _)); refine blk_far ?_ NB197_229.out _; (with_reducible repeat (first | refine blk_drewN ?_ _ | refine blk_drew ?_ | refine blk_alloc ?_ _)); refine blk_far ?_ NB197_229.out _; (with_reducible repeat (first | refine blk_drewN ?_ _ | refine blk_drew ?_ | refine blk_alloc ?_ _)); refine blk_far ?_ NB197_229.out _; (with_reducible repeat (first | refine blk_drewN ?_ _ | refine blk_drew ?_ | refine blk_alloc ?_ _)); exact BK197.out⟩, ⟨by (with_reducible repeat (first | refine blk_drewN ?_ _ | refine blk_drew ?_ | refine blk_alloc ?_ _)); refine blk_put (cs := #[.int .i64 ((rd_T37 l0_2 x19_2).f0), .int .i64 ((rd_T37 l0_2 x19_2).f1), .slice none 0 0]) ?_ 2 _ rfl; (with_reducible repeat (first | refine blk_drewN ?_ _ | refine blk_drew ?_ | refine blk_alloc ?_ _)); refine blk_put (cs := #[.int .i64 ((rd_T37 l0_2 x19_2).f0), .int .i64 0, .slice none 0 0]) ?_ 1 _ rfl; (with_reducible repeat (first | refine blk_drewN ?_ _ | refine blk_drew ?_ | refine blk_alloc ?_ _)); refine blk_put (cs := #[.int .i64 0, .int .i64 0, .slice none 0 0]) ?_ 0 _ rfl; (with_reducible repeat (first | refine blk_drewN ?_ _ | refine blk_drew ?_ | refine blk_alloc ?_ _)); exact BK229.out⟩, ⟨by repeat (first | (with_reducible first | exact HB.out | apply below_alloc | apply pw_below_drewN | apply below_drew1 | refine below_set ?_ GE197.out | refine below_set ?_ GE229.out) | exact HB.out)⟩⟩
                                    case round =>
                                      clear H'
                                      try clear c1
                                      try clear c2
                                      try clear p2
                                      try clear q2
                                      try clear hx2
                                      try clear c3
                                      try clear c4
                                      try clear p4
                                      try clear q4
                                      try clear hx4
                                      try clear hf4
                                      try clear c5
                                      try clear p6
                                      try clear c8
                                      try clear c8b0
                                      try clear c8b1
                                      try clear c11
                                      try clear c11b0
                                      try clear c11b1
                                      try clear c12
                                      try clear c12b0
                                      try clear c12b1
                                      try clear c13
                                      try clear c14
                                      try clear c15
                                      try clear c15b0
                                      try clear c15b1
                                      try clear c17
                                      try clear c17b0
                                      try clear c17b1
                                      try clear c18
                                      try clear c18b0
                                      try clear c18b1
                                      try clear c22
                                      try clear p22
                                      try clear q22
                                      try clear hx22
                                      try clear c39
                                      try clear c39b0
                                      try clear c40
                                      try clear c40b0
                                      try clear c41
                                      try clear c41b0
                                      try clear q42
                                      try clear c43
                                      try clear c44
                                      try clear c44b0
                                      try clear p45
                                      try clear q45
                                      try clear hx45
                                      try clear hf45
                                      try clear c53
                                      try clear c53b0
                                      try clear c54
                                      try clear c54b0
                                      try clear c55
                                      try clear c55b0
                                      try clear c55b1
                                      try clear c58
                                      try clear hcz21_0
                                      try clear hcz21_1
                                      try clear hcz21_2
                                      try clear hcz21_3
                                      try clear hcz23_0
                                      try clear hcz23_1
                                      try clear hcz23_2
                                      try clear hcz23_3
                                      try clear hcz25_0
                                      try clear hcz25_1
                                      try clear hcz25_2
                                      try clear hcz25_3
                                      try clear hcz27_0
                                      try clear hcz27_1
                                      try clear hcz27_2
                                      try clear hcz27_3
                                      try clear hcz30_0
                                      try clear hcz30_1
                                      try clear hcz30_2
                                      try clear hcz30_3
                                      try clear hcz34_0
                                      try clear hcz34_1
                                      try clear hcz34_2
                                      try clear hcz34_3
                                      try clear hcz36_0
                                      try clear hcz36_1
                                      try clear hcz36_2
                                      try clear hcz36_3
                                      try clear hcz46_0
                                      try clear hcz46_1
                                      try clear hcz46_2
                                      try clear hcz46_3
                                      try clear hcz50_0
                                      try clear hcz50_1
                                      try clear hcz50_2
                                      try clear hcz50_3
                                      try clear hcz52_0
                                      try clear hcz52_1
                                      try clear hcz52_2
                                      try clear hcz52_3
                                      try clear hcz56_0
                                      try clear hcz56_1
                                      try clear hcz56_2
                                      try clear hcz56_3
                                      try clear hcz59_0
                                      try clear hcz59_1
                                      try clear hcz59_2
                                      try clear hfz21_0
                                      try clear hfz21_1
                                      try clear hfz21_2
                                      try clear hfz21_3
                                      try clear hfz23_0
                                      try clear hfz23_1
                                      try clear hfz23_2
                                      try clear hfz23_3
                                      try clear hfz25_0
                                      try clear hfz25_1
                                      try clear hfz25_2
                                      try clear hfz25_3
                                      try clear hfz27_0
                                      try clear hfz27_1
                                      try clear hfz27_2
                                      try clear hfz27_3
                                      try clear hfz30_0
                                      try clear hfz30_1
                                      try clear hfz30_2
                                      try clear hfz30_3
                                      try clear hfz34_0
                                      try clear hfz34_1
                                      try clear hfz34_2
                                      try clear hfz34_3
                                      try clear hfz36_0
                                      try clear hfz36_1
                                      try clear hfz36_2
                                      try clear hfz36_3
                                      try clear hfz46_0
                                      try clear hfz46_1
                                      try clear hfz46_2
                                      try clear hfz46_3
                                      try clear hfz50_0
                                      try clear hfz50_1
                                      try clear hfz50_2
                                      try clear hfz50_3
                                      try clear hfz52_0
                                      try clear hfz52_1
                                      try clear hfz52_2
                                      try clear hfz52_3
                                      try clear hfz56_0
                                      try clear hfz56_1
                                      try clear hfz56_2
                                      try clear hfz56_3
                                      try clear hfz59_0
                                      try clear hfz59_1
                                      try clear hfz59_2
                                      try clear hx226_0
                                      try clear hx228_0
                                      try clear hx228_1
                                      try clear hx228_2
                                      try clear hx45_0
                                      try clear p2
                                      try clear p22
                                      try clear p226
                                      try clear p228
                                      try clear p4
                                      try clear p45
                                      try clear p6
                                      try clear q2
                                      try clear q22
                                      try clear q226
                                      try clear q228
                                      try clear q4
                                      try clear q42
                                      try clear q45
                                      obtain ⟨x21_3, x22_3, x23_3, rfl, rfl, rfl, HA, HK3, HO_11, HO_13, HO_17, BK197, BK229, HB⟩ := hrel
                                      cases gk with
                                      | zero => exact absurd HA.out (by simp [lexpriorlaw14_StrictConditions.l2])
                                      | succ k3 =>
                                        have H := HA.out
                                        clear HA
                                        simp only [lexpriorlaw14_StrictConditions.l2] at H
                                        by_cases c60 : x23_3 < (((rd_T37 l0_2 x19_2).f2).length : Int)
                                        · rw [if_pos c60] at H
                                          have c60b0 : decide (x23_3 < (((rd_T37 l0_2 x19_2).f2).length : Int)) = true := decide_eq_true c60
                                          clear c60
                                          by_cases c61 : x21_3 = true
                                          · subst c61
                                            have H1 : (if 0 ≤ x23_3 then (if 0 ≤ (rd ((rd_T37 l0_2 x19_2).f2) x23_3) then (if (rd ((rd_T37 l0_2 x19_2).f2) x23_3) < (t211.length : Int) then (if x22_3 = true then (lexpriorlaw14_StrictConditions.l2 k3 t211 t215 x17_2 x19_2 (rdOf false t211 (rd ((rd_T37 l0_2 x19_2).f2) x23_3)) true (wrap64 (x23_3 + 1)) a0_0 l0_1 l0_2 l0_3 ((rd_T37 l0_2 x19_2).f0) ((rd_T37 l0_2 x19_2).f1) ((rd_T37 l0_2 x19_2).f2)) else (if (rd ((rd_T37 l0_2 x19_2).f2) x23_3) < (t215.length : Int) then (lexpriorlaw14_StrictConditions.l2 k3 t211 t215 x17_2 x19_2 (rdOf false t211 (rd ((rd_T37 l0_2 x19_2).f2) x23_3)) (rdOf false t215 (rd ((rd_T37 l0_2 x19_2).f2) x23_3)) (wrap64 (x23_3 + 1)) a0_0 l0_1 l0_2 l0_3 ((rd_T37 l0_2 x19_2).f0) ((rd_T37 l0_2 x19_2).f1) ((rd_T37 l0_2 x19_2).f2)) else (none))) else (none)) else (none)) else (none)) = some r := by rw [if_pos rfl] at H; exact H
                                            clear H
                                            have H := H1
                                            clear H1
                                            by_cases c62 : 0 ≤ x23_3
                                            · rw [if_pos c62] at H
                                              have c62b0 : decide (0 ≤ x23_3) = true := decide_eq_true c62
                                              clear c62
                                              by_cases c63 : 0 ≤ (rd ((rd_T37 l0_2 x19_2).f2) x23_3)
                                              · rw [if_pos c63] at H
                                                have c63b0 : decide (0 ≤ (rd ((rd_T37 l0_2 x19_2).f2) x23_3)) = true := decide_eq_true c63
                                                clear c63
                                                by_cases c64 : (rd ((rd_T37 l0_2 x19_2).f2) x23_3) < (t211.length : Int)
                                                · rw [if_pos c64] at H
                                                  have c64b0 : decide ((rd ((rd_T37 l0_2 x19_2).f2) x23_3) < (t211.length : Int)) = true := decide_eq_true c64
                                                  clear c64
                                                  by_cases c65 : x22_3 = true
                                                  · subst c65
                                                    have H1 : (lexpriorlaw14_StrictConditions.l2 k3 t211 t215 x17_2 x19_2 (rdOf false t211 (rd ((rd_T37 l0_2 x19_2).f2) x23_3)) true (wrap64 (x23_3 + 1)) a0_0 l0_1 l0_2 l0_3 ((rd_T37 l0_2 x19_2).f0) ((rd_T37 l0_2 x19_2).f1) ((rd_T37 l0_2 x19_2).f2)) = some r := by rw [if_pos rfl] at H; exact H
                                                    clear H
                                                    have H := H1
                                                    clear H1
                                                    have H' := Aside0.mk H
                                                    clear H
                                                    have hnb66 := NB229_197.out
                                                    have hnc66 := NB197_229.out
                                                    have hcz67_0 : wr.cell? ⟨gb229, 0, none⟩ = some (.int .i64 ((rd_T37 l0_2 x19_2).f0)) := (blk_cell BK229.out 0).trans rfl
                                                    have hcz67_1 : wr.cell? ⟨gb229, 1, none⟩ = some (.int .i64 ((rd_T37 l0_2 x19_2).f1)) := (blk_cell BK229.out 1).trans rfl
                                                    have hcz67_2 : wr.cell? ⟨gb229, 2, none⟩ = some (.slice A228_2 ((rd_T37 l0_2 x19_2).f2).length c228_2) := (blk_cell BK229.out 2).trans rfl
                                                    have hfz67_0 := blk_frozen BK229.out 0
                                                    have hfz67_1 := blk_frozen BK229.out 1
                                                    have hfz67_2 := blk_frozen BK229.out 2
                                                    have p230 : 0 ≤ (x23_3 : Int) := of_decide_eq_true (by first | (with_reducible assumption) | assumption)
                                                    have q230 : x23_3 < (((rd_T37 l0_2 x19_2).f2).length : Int) := of_decide_eq_true (by first | (with_reducible assumption) | assumption)
                                                    obtain ⟨ad230, e230, hx230_0⟩ := Kd.at_int HR228_2.out x23_3 p230 q230
                                                    cases e230
                                                    replace hx230_0 := (HB.out.cell (World.block_lt_of_cell? w _ hx230_0)).trans hx230_0
                                                    replace p230 := eq_true p230
                                                    replace q230 := eq_true q230
                                                    obtain ⟨Ao68, co68, eo68⟩ := Kd.R_slice HO_11.out
                                                    subst eo68
                                                    have p231 : 0 ≤ ((rd ((rd_T37 l0_2 x19_2).f2) x23_3) : Int) := of_decide_eq_true (by first | (with_reducible assumption) | assumption)
                                                    have q231 : (rd ((rd_T37 l0_2 x19_2).f2) x23_3) < (t211.length : Int) := of_decide_eq_true (by first | (with_reducible assumption) | assumption)
                                                    obtain ⟨ad231, e231, hx231_0⟩ := Kd.at_bool (Kd.R_reads' HO_11.out).2.2 (rd ((rd_T37 l0_2 x19_2).f2) x23_3) p231 q231
                                                    cases e231
                                                    replace p231 := eq_true p231
                                                    replace q231 := eq_true q231
                                                    go_wp2
                                                    repeat (go_quiet (fail); try go_wp2)
                                                    go_roundg k3
                                                    case measure => have := HK1.out; have := HK2.out; have := HK3.out; omega
                                                    case rel => exact ⟨(rdOf false t211 (rd ((rd_T37 l0_2 x19_2).f2) x23_3)), (true), (wrap64 (x23_3 + 1)), (by first | rfl | (simp; done) | (simp [*]; done)), (by first | rfl | (simp; done) | (simp [*]; done)), (by first | rfl | (simp; done) | (simp [*]; done)), H', ⟨by have := HK1.out; have := HK2.out; have := HK3.out; omega⟩, ⟨by (with_reducible repeat (first | apply Kd.R_alloc | apply Kd.R_drewN | apply Kd.R_drew)); exact HO_11.out⟩, ⟨by (with_reducible repeat (first | apply Kd.R_alloc | apply Kd.R_drewN | apply Kd.R_drew)); exact HO_13.out⟩, ⟨by (with_reducible repeat (first | apply Kd.R_alloc | apply Kd.R_drewN | apply Kd.R_drew)); exact HO_17.out⟩, ⟨by (with_reducible repeat (first | refine blk_drewN ?_ _ | refine blk_drew ?_ | refine blk_alloc ?_ _)); exact BK197.out⟩, ⟨by (with_reducible repeat (first | refine blk_drewN ?_ _ | refine blk_drew ?_ | refine blk_alloc ?_ _)); exact BK229.out⟩, ⟨by repeat (first | (with_reducible first | exact HB.out | apply below_alloc | apply pw_below_drewN | apply below_drew1 | refine below_set ?_ GE197.out | refine below_set ?_ GE229.out) | exact HB.out)⟩⟩
                                                  · replace c65 := Bool.eq_false_iff.mpr c65
                                                    subst c65
                                                    have H1 : (if (rd ((rd_T37 l0_2 x19_2).f2) x23_3) < (t215.length : Int) then (lexpriorlaw14_StrictConditions.l2 k3 t211 t215 x17_2 x19_2 (rdOf false t211 (rd ((rd_T37 l0_2 x19_2).f2) x23_3)) (rdOf false t215 (rd ((rd_T37 l0_2 x19_2).f2) x23_3)) (wrap64 (x23_3 + 1)) a0_0 l0_1 l0_2 l0_3 ((rd_T37 l0_2 x19_2).f0) ((rd_T37 l0_2 x19_2).f1) ((rd_T37 l0_2 x19_2).f2)) else (none)) = some r := by rw [if_neg (show ¬ (false = true) by decide)] at H; exact H
                                                    clear H
                                                    have H := H1
                                                    clear H1
                                                    by_cases c69 : (rd ((rd_T37 l0_2 x19_2).f2) x23_3) < (t215.length : Int)
                                                    · rw [if_pos c69] at H
                                                      have c69b0 : decide ((rd ((rd_T37 l0_2 x19_2).f2) x23_3) < (t215.length : Int)) = true := decide_eq_true c69
                                                      clear c69
                                                      have H' := Aside0.mk H
                                                      clear H
                                                      have hnb70 := NB229_197.out
                                                      have hnc70 := NB197_229.out
                                                      have hcz71_0 : wr.cell? ⟨gb229, 0, none⟩ = some (.int .i64 ((rd_T37 l0_2 x19_2).f0)) := (blk_cell BK229.out 0).trans rfl
                                                      have hcz71_1 : wr.cell? ⟨gb229, 1, none⟩ = some (.int .i64 ((rd_T37 l0_2 x19_2).f1)) := (blk_cell BK229.out 1).trans rfl
                                                      have hcz71_2 : wr.cell? ⟨gb229, 2, none⟩ = some (.slice A228_2 ((rd_T37 l0_2 x19_2).f2).length c228_2) := (blk_cell BK229.out 2).trans rfl
                                                      have hfz71_0 := blk_frozen BK229.out 0
                                                      have hfz71_1 := blk_frozen BK229.out 1
                                                      have hfz71_2 := blk_frozen BK229.out 2
                                                      have p230 : 0 ≤ (x23_3 : Int) := of_decide_eq_true (by first | (with_reducible assumption) | assumption)
                                                      have q230 : x23_3 < (((rd_T37 l0_2 x19_2).f2).length : Int) := of_decide_eq_true (by first | (with_reducible assumption) | assumption)
                                                      obtain ⟨ad230, e230, hx230_0⟩ := Kd.at_int HR228_2.out x23_3 p230 q230
                                                      cases e230
                                                      replace hx230_0 := (HB.out.cell (World.block_lt_of_cell? w _ hx230_0)).trans hx230_0
                                                      replace p230 := eq_true p230
                                                      replace q230 := eq_true q230
                                                      obtain ⟨Ao72, co72, eo72⟩ := Kd.R_slice HO_11.out
                                                      subst eo72
                                                      have p231 : 0 ≤ ((rd ((rd_T37 l0_2 x19_2).f2) x23_3) : Int) := of_decide_eq_true (by first | (with_reducible assumption) | assumption)
                                                      have q231 : (rd ((rd_T37 l0_2 x19_2).f2) x23_3) < (t211.length : Int) := of_decide_eq_true (by first | (with_reducible assumption) | assumption)
                                                      obtain ⟨ad231, e231, hx231_0⟩ := Kd.at_bool (Kd.R_reads' HO_11.out).2.2 (rd ((rd_T37 l0_2 x19_2).f2) x23_3) p231 q231
                                                      cases e231
                                                      replace p231 := eq_true p231
                                                      replace q231 := eq_true q231
                                                      have p232 : 0 ≤ (x23_3 : Int) := of_decide_eq_true (by first | (with_reducible assumption) | assumption)
                                                      have q232 : x23_3 < (((rd_T37 l0_2 x19_2).f2).length : Int) := of_decide_eq_true (by first | (with_reducible assumption) | assumption)
                                                      obtain ⟨ad232, e232, hx232_0⟩ := Kd.at_int HR228_2.out x23_3 p232 q232
                                                      obtain rfl : ad230 = ad232 := (by injection e232)
                                                      replace hx232_0 := (HB.out.cell (World.block_lt_of_cell? w _ hx232_0)).trans hx232_0
                                                      replace p232 := eq_true p232
                                                      replace q232 := eq_true q232
                                                      obtain ⟨Ao73, co73, eo73⟩ := Kd.R_slice HO_13.out
                                                      subst eo73
                                                      have p233 : 0 ≤ ((rd ((rd_T37 l0_2 x19_2).f2) x23_3) : Int) := of_decide_eq_true (by first | (with_reducible assumption) | assumption)
                                                      have q233 : (rd ((rd_T37 l0_2 x19_2).f2) x23_3) < (t215.length : Int) := of_decide_eq_true (by first | (with_reducible assumption) | assumption)
                                                      obtain ⟨ad233, e233, hx233_0⟩ := Kd.at_bool (Kd.R_reads' HO_13.out).2.2 (rd ((rd_T37 l0_2 x19_2).f2) x23_3) p233 q233
                                                      cases e233
                                                      replace p233 := eq_true p233
                                                      replace q233 := eq_true q233
                                                      go_wp2
                                                      repeat (go_quiet (fail); try go_wp2)
                                                      go_roundg k3
                                                      case measure => have := HK1.out; have := HK2.out; have := HK3.out; omega
                                                      case rel => exact ⟨(rdOf false t211 (rd ((rd_T37 l0_2 x19_2).f2) x23_3)), (rdOf false t215 (rd ((rd_T37 l0_2 x19_2).f2) x23_3)), (wrap64 (x23_3 + 1)), (by first | rfl | (simp; done) | (simp [*]; done)), (by first | rfl | (simp; done) | (simp [*]; done)), (by first | rfl | (simp; done) | (simp [*]; done)), H', ⟨by have := HK1.out; have := HK2.out; have := HK3.out; omega⟩, ⟨by (with_reducible repeat (first | apply Kd.R_alloc | apply Kd.R_drewN | apply Kd.R_drew)); exact HO_11.out⟩, ⟨by (with_reducible repeat (first | apply Kd.R_alloc | apply Kd.R_drewN | apply Kd.R_drew)); exact HO_13.out⟩, ⟨by (with_reducible repeat (first | apply Kd.R_alloc | apply Kd.R_drewN | apply Kd.R_drew)); exact HO_17.out⟩, ⟨by (with_reducible repeat (first | refine blk_drewN ?_ _ | refine blk_drew ?_ | refine blk_alloc ?_ _)); exact BK197.out⟩, ⟨by (with_reducible repeat (first | refine blk_drewN ?_ _ | refine blk_drew ?_ | refine blk_alloc ?_ _)); exact BK229.out⟩, ⟨by repeat (first | (with_reducible first | exact HB.out | apply below_alloc | apply pw_below_drewN | apply below_drew1 | refine below_set ?_ GE197.out | refine below_set ?_ GE229.out) | exact HB.out)⟩⟩
                                                    · rw [if_neg c69] at H
                                                      exact absurd H (by simp)
                                                · rw [if_neg c64] at H
                                                  exact absurd H (by simp)
                                              · rw [if_neg c63] at H
                                                exact absurd H (by simp)
                                            · rw [if_neg c62] at H
                                              exact absurd H (by simp)
                                          · replace c61 := Bool.eq_false_iff.mpr c61
                                            subst c61
                                            have H1 : (if x22_3 = true then (lexpriorlaw14_StrictConditions.l2 k3 t211 t215 x17_2 x19_2 false true (wrap64 (x23_3 + 1)) a0_0 l0_1 l0_2 l0_3 ((rd_T37 l0_2 x19_2).f0) ((rd_T37 l0_2 x19_2).f1) ((rd_T37 l0_2 x19_2).f2)) else (if 0 ≤ x23_3 then (if 0 ≤ (rd ((rd_T37 l0_2 x19_2).f2) x23_3) then (if (rd ((rd_T37 l0_2 x19_2).f2) x23_3) < (t215.length : Int) then (lexpriorlaw14_StrictConditions.l2 k3 t211 t215 x17_2 x19_2 false (rdOf false t215 (rd ((rd_T37 l0_2 x19_2).f2) x23_3)) (wrap64 (x23_3 + 1)) a0_0 l0_1 l0_2 l0_3 ((rd_T37 l0_2 x19_2).f0) ((rd_T37 l0_2 x19_2).f1) ((rd_T37 l0_2 x19_2).f2)) else (none)) else (none)) else (none))) = some r := by rw [if_neg (show ¬ (false = true) by decide)] at H; exact H
                                            clear H
                                            have H := H1
                                            clear H1
                                            by_cases c74 : x22_3 = true
                                            · subst c74
                                              have H1 : (lexpriorlaw14_StrictConditions.l2 k3 t211 t215 x17_2 x19_2 false true (wrap64 (x23_3 + 1)) a0_0 l0_1 l0_2 l0_3 ((rd_T37 l0_2 x19_2).f0) ((rd_T37 l0_2 x19_2).f1) ((rd_T37 l0_2 x19_2).f2)) = some r := by rw [if_pos rfl] at H; exact H
                                              clear H
                                              have H := H1
                                              clear H1
                                              have H' := Aside0.mk H
                                              clear H
                                              have hnb75 := NB229_197.out
                                              have hnc75 := NB197_229.out
                                              have hcz76_0 : wr.cell? ⟨gb229, 0, none⟩ = some (.int .i64 ((rd_T37 l0_2 x19_2).f0)) := (blk_cell BK229.out 0).trans rfl
                                              have hcz76_1 : wr.cell? ⟨gb229, 1, none⟩ = some (.int .i64 ((rd_T37 l0_2 x19_2).f1)) := (blk_cell BK229.out 1).trans rfl
                                              have hcz76_2 : wr.cell? ⟨gb229, 2, none⟩ = some (.slice A228_2 ((rd_T37 l0_2 x19_2).f2).length c228_2) := (blk_cell BK229.out 2).trans rfl
                                              have hfz76_0 := blk_frozen BK229.out 0
                                              have hfz76_1 := blk_frozen BK229.out 1
                                              have hfz76_2 := blk_frozen BK229.out 2
                                              go_wp2
                                              repeat (go_quiet (fail); try go_wp2)
                                              go_roundg k3
                                              case measure => have := HK1.out; have := HK2.out; have := HK3.out; omega
                                              case rel => exact ⟨(false), (true), (wrap64 (x23_3 + 1)), (by first | rfl | (simp; done) | (simp [*]; done)), (by first | rfl | (simp; done) | (simp [*]; done)), (by first | rfl | (simp; done) | (simp [*]; done)), H', ⟨by have := HK1.out; have := HK2.out; have := HK3.out; omega⟩, ⟨by (with_reducible repeat (first | apply Kd.R_alloc | apply Kd.R_drewN | apply Kd.R_drew)); exact HO_11.out⟩, ⟨by (with_reducible repeat (first | apply Kd.R_alloc | apply Kd.R_drewN | apply Kd.R_drew)); exact HO_13.out⟩, ⟨by (with_reducible repeat (first | apply Kd.R_alloc | apply Kd.R_drewN | apply Kd.R_drew)); exact HO_17.out⟩, ⟨by (with_reducible repeat (first | refine blk_drewN ?_ _ | refine blk_drew ?_ | refine blk_alloc ?_ _)); exact BK197.out⟩, ⟨by (with_reducible repeat (first | refine blk_drewN ?_ _ | refine blk_drew ?_ | refine blk_alloc ?_ _)); exact BK229.out⟩, ⟨by repeat (first | (with_reducible first | exact HB.out | apply below_alloc | apply pw_below_drewN | apply below_drew1 | refine below_set ?_ GE197.out | refine below_set ?_ GE229.out) | exact HB.out)⟩⟩
                                            · replace c74 := Bool.eq_false_iff.mpr c74
                                              subst c74
                                              have H1 : (if 0 ≤ x23_3 then (if 0 ≤ (rd ((rd_T37 l0_2 x19_2).f2) x23_3) then (if (rd ((rd_T37 l0_2 x19_2).f2) x23_3) < (t215.length : Int) then (lexpriorlaw14_StrictConditions.l2 k3 t211 t215 x17_2 x19_2 false (rdOf false t215 (rd ((rd_T37 l0_2 x19_2).f2) x23_3)) (wrap64 (x23_3 + 1)) a0_0 l0_1 l0_2 l0_3 ((rd_T37 l0_2 x19_2).f0) ((rd_T37 l0_2 x19_2).f1) ((rd_T37 l0_2 x19_2).f2)) else (none)) else (none)) else (none)) = some r := by rw [if_neg (show ¬ (false = true) by decide)] at H; exact H
                                              clear H
                                              have H := H1
                                              clear H1
                                              by_cases c77 : 0 ≤ x23_3
                                              · rw [if_pos c77] at H
                                                have c77b0 : decide (0 ≤ x23_3) = true := decide_eq_true c77
                                                clear c77
                                                by_cases c78 : 0 ≤ (rd ((rd_T37 l0_2 x19_2).f2) x23_3)
                                                · rw [if_pos c78] at H
                                                  have c78b0 : decide (0 ≤ (rd ((rd_T37 l0_2 x19_2).f2) x23_3)) = true := decide_eq_true c78
                                                  clear c78
                                                  by_cases c79 : (rd ((rd_T37 l0_2 x19_2).f2) x23_3) < (t215.length : Int)
                                                  · rw [if_pos c79] at H
                                                    have c79b0 : decide ((rd ((rd_T37 l0_2 x19_2).f2) x23_3) < (t215.length : Int)) = true := decide_eq_true c79
                                                    clear c79
                                                    have H' := Aside0.mk H
                                                    clear H
                                                    have hnb80 := NB229_197.out
                                                    have hnc80 := NB197_229.out
                                                    have hcz81_0 : wr.cell? ⟨gb229, 0, none⟩ = some (.int .i64 ((rd_T37 l0_2 x19_2).f0)) := (blk_cell BK229.out 0).trans rfl
                                                    have hcz81_1 : wr.cell? ⟨gb229, 1, none⟩ = some (.int .i64 ((rd_T37 l0_2 x19_2).f1)) := (blk_cell BK229.out 1).trans rfl
                                                    have hcz81_2 : wr.cell? ⟨gb229, 2, none⟩ = some (.slice A228_2 ((rd_T37 l0_2 x19_2).f2).length c228_2) := (blk_cell BK229.out 2).trans rfl
                                                    have hfz81_0 := blk_frozen BK229.out 0
                                                    have hfz81_1 := blk_frozen BK229.out 1
                                                    have hfz81_2 := blk_frozen BK229.out 2
                                                    have p234 : 0 ≤ (x23_3 : Int) := of_decide_eq_true (by first | (with_reducible assumption) | assumption)
                                                    have q234 : x23_3 < (((rd_T37 l0_2 x19_2).f2).length : Int) := of_decide_eq_true (by first | (with_reducible assumption) | assumption)
                                                    obtain ⟨ad234, e234, hx234_0⟩ := Kd.at_int HR228_2.out x23_3 p234 q234
                                                    cases e234
                                                    replace hx234_0 := (HB.out.cell (World.block_lt_of_cell? w _ hx234_0)).trans hx234_0
                                                    replace p234 := eq_true p234
                                                    replace q234 := eq_true q234
                                                    obtain ⟨Ao82, co82, eo82⟩ := Kd.R_slice HO_13.out
                                                    subst eo82
                                                    have p235 : 0 ≤ ((rd ((rd_T37 l0_2 x19_2).f2) x23_3) : Int) := of_decide_eq_true (by first | (with_reducible assumption) | assumption)
                                                    have q235 : (rd ((rd_T37 l0_2 x19_2).f2) x23_3) < (t215.length : Int) := of_decide_eq_true (by first | (with_reducible assumption) | assumption)
                                                    obtain ⟨ad235, e235, hx235_0⟩ := Kd.at_bool (Kd.R_reads' HO_13.out).2.2 (rd ((rd_T37 l0_2 x19_2).f2) x23_3) p235 q235
                                                    cases e235
                                                    replace p235 := eq_true p235
                                                    replace q235 := eq_true q235
                                                    go_wp2
                                                    repeat (go_quiet (fail); try go_wp2)
                                                    go_roundg k3
                                                    case measure => have := HK1.out; have := HK2.out; have := HK3.out; omega
                                                    case rel => exact ⟨(false), (rdOf false t215 (rd ((rd_T37 l0_2 x19_2).f2) x23_3)), (wrap64 (x23_3 + 1)), (by first | rfl | (simp; done) | (simp [*]; done)), (by first | rfl | (simp; done) | (simp [*]; done)), (by first | rfl | (simp; done) | (simp [*]; done)), H', ⟨by have := HK1.out; have := HK2.out; have := HK3.out; omega⟩, ⟨by (with_reducible repeat (first | apply Kd.R_alloc | apply Kd.R_drewN | apply Kd.R_drew)); exact HO_11.out⟩, ⟨by (with_reducible repeat (first | apply Kd.R_alloc | apply Kd.R_drewN | apply Kd.R_drew)); exact HO_13.out⟩, ⟨by (with_reducible repeat (first | apply Kd.R_alloc | apply Kd.R_drewN | apply Kd.R_drew)); exact HO_17.out⟩, ⟨by (with_reducible repeat (first | refine blk_drewN ?_ _ | refine blk_drew ?_ | refine blk_alloc ?_ _)); exact BK197.out⟩, ⟨by (with_reducible repeat (first | refine blk_drewN ?_ _ | refine blk_drew ?_ | refine blk_alloc ?_ _)); exact BK229.out⟩, ⟨by repeat (first | (with_reducible first | exact HB.out | apply below_alloc | apply pw_below_drewN | apply below_drew1 | refine below_set ?_ GE197.out | refine below_set ?_ GE229.out) | exact HB.out)⟩⟩
                                                  · rw [if_neg c79] at H
                                                    exact absurd H (by simp)
                                                · rw [if_neg c78] at H
                                                  exact absurd H (by simp)
                                              · rw [if_neg c77] at H
                                                exact absurd H (by simp)
                                        · rw [if_neg c60] at H
                                          have c60b0 : decide (x23_3 < (((rd_T37 l0_2 x19_2).f2).length : Int)) = false := decide_eq_false c60
                                          clear c60
                                          by_cases c83 : x21_3 = true
                                          · subst c83
                                            have H1 : (if 0 ≤ ((rd_T37 l0_2 x19_2).f1) then (if ((rd_T37 l0_2 x19_2).f1) < (x17_2.length : Int) then ((some (x17_2.set (((rd_T37 l0_2 x19_2).f1) : Int).toNat 1 : List Int)).bind fun y236 => (if x22_3 = true then (lexpriorlaw14_StrictConditions.l1 k3 t211 t215 y236 (wrap64 (x19_2 + 1)) a0_0 l0_1 l0_2 l0_3) else (if (rd y236 ((rd_T37 l0_2 x19_2).f1)) = 0 then (lexpriorlaw14_StrictConditions.l1 k3 t211 t215 (y236.set (((rd_T37 l0_2 x19_2).f1) : Int).toNat 2) (wrap64 (x19_2 + 1)) a0_0 l0_1 l0_2 l0_3) else (lexpriorlaw14_StrictConditions.l1 k3 t211 t215 y236 (wrap64 (x19_2 + 1)) a0_0 l0_1 l0_2 l0_3)))) else (none)) else (none)) = some r := by rw [if_pos rfl] at H; exact H
                                            clear H
                                            have H := H1
                                            clear H1
                                            by_cases c84 : 0 ≤ ((rd_T37 l0_2 x19_2).f1)
                                            · rw [if_pos c84] at H
                                              have c84b0 : decide (0 ≤ ((rd_T37 l0_2 x19_2).f1)) = true := decide_eq_true c84
                                              clear c84
                                              by_cases c85 : ((rd_T37 l0_2 x19_2).f1) < (x17_2.length : Int)
                                              · rw [if_pos c85] at H
                                                have c85b0 : decide (((rd_T37 l0_2 x19_2).f1) < (x17_2.length : Int)) = true := decide_eq_true c85
                                                clear c85
                                                obtain ⟨y236, hy236⟩ : ∃ y_ : List Int, y_ = (x17_2.set (((rd_T37 l0_2 x19_2).f1) : Int).toNat 1) := ⟨_, rfl⟩
                                                replace H : (if x22_3 = true then (lexpriorlaw14_StrictConditions.l1 k3 t211 t215 y236 (wrap64 (x19_2 + 1)) a0_0 l0_1 l0_2 l0_3) else (if (rd y236 ((rd_T37 l0_2 x19_2).f1)) = 0 then (lexpriorlaw14_StrictConditions.l1 k3 t211 t215 (y236.set (((rd_T37 l0_2 x19_2).f1) : Int).toNat 2) (wrap64 (x19_2 + 1)) a0_0 l0_1 l0_2 l0_3) else (lexpriorlaw14_StrictConditions.l1 k3 t211 t215 y236 (wrap64 (x19_2 + 1)) a0_0 l0_1 l0_2 l0_3))) = some r := by first | (rw [hy236]; with_reducible exact H) | (have H2_ := (Option.bind_some _ _).symm.trans H; rw [hy236]; with_reducible exact H2_) | (have H2_ := (Option.bind_some _ _).symm.trans H; with_reducible exact H2_) | with_reducible exact H | (rw [hy236]; exact H) | exact H
                                                have Ny236 := Aside0.mk hy236
                                                clear hy236
                                                by_cases c87 : x22_3 = true
                                                · subst c87
                                                  have H1 : (lexpriorlaw14_StrictConditions.l1 k3 t211 t215 y236 (wrap64 (x19_2 + 1)) a0_0 l0_1 l0_2 l0_3) = some r := by rw [if_pos rfl] at H; exact H
                                                  clear H
                                                  have H := H1
                                                  clear H1
                                                  have H' := Aside0.mk H
                                                  clear H
                                                  have hnb88 := NB229_197.out
                                                  have hnc88 := NB197_229.out
                                                  have hcz89_0 : wr.cell? ⟨gb229, 0, none⟩ = some (.int .i64 ((rd_T37 l0_2 x19_2).f0)) := (blk_cell BK229.out 0).trans rfl
                                                  have hcz89_1 : wr.cell? ⟨gb229, 1, none⟩ = some (.int .i64 ((rd_T37 l0_2 x19_2).f1)) := (blk_cell BK229.out 1).trans rfl
                                                  have hcz89_2 : wr.cell? ⟨gb229, 2, none⟩ = some (.slice A228_2 ((rd_T37 l0_2 x19_2).f2).length c228_2) := (blk_cell BK229.out 2).trans rfl
                                                  have hfz89_0 := blk_frozen BK229.out 0
                                                  have hfz89_1 := blk_frozen BK229.out 1
                                                  have hfz89_2 := blk_frozen BK229.out 2
                                                  have p86 : 0 ≤ (((rd_T37 l0_2 x19_2).f1) : Int) := of_decide_eq_true (by first | (with_reducible assumption) | assumption)
                                                  have q86 : (((rd_T37 l0_2 x19_2).f1) : Int) < ((x17_2.length : Int) : Int) := of_decide_eq_true (by first | (with_reducible assumption) | assumption)
                                                  obtain ⟨go86, co86, eo86, gb86, gl86, cl86, HG86⟩ := Kd.R_form HO_17.out (by omega)
                                                  (first | cases eo86 | (injection eo86 with ea_ en_ ec_; (first | subst ea_ | (injection ea_ with ea_; subst ea_)); subst ec_; clear en_))
                                                  have GB86 := Aside0.mk gb86
                                                  have GG86 := Aside0.mk HG86
                                                  clear gb86 gl86 HG86
                                                  obtain ⟨hx86_0, hf86_0⟩ := Kd.R_celln 0 HO_17.out (((rd_T37 l0_2 x19_2).f1) : Int) p86 q86
                                                  replace p86 := eq_true p86
                                                  replace q86 := eq_true q86
                                                  have HP90 := Kd.R_putg HO_17.out (((rd_T37 l0_2 x19_2).f1) : Int) 1
                                                  go_wp2_with (first | ((with_reducible refine gate_store (t := 3) (p := 178) rfl ?_); (try (rw [drewN_self wr]; generalize hq_ : World.drewN wr _ = wr; have n0_ := Aside0.mk (Kd.R_at hq_ HO_11.out); have n1_ := Aside0.mk (Kd.R_at hq_ HO_13.out); have n2_ := Aside0.mk (Kd.R_at hq_ HO_17.out); have n3_ := Aside0.mk (blk_at hq_ BK197.out); have n4_ := Aside0.mk (blk_at hq_ BK229.out); have n5_ := Aside0.mk (below_at hq_ HB.out); clear hq_ HO_11 HO_13 HO_17 BK197 BK229 HB; have HO_11 := n0_; have HO_13 := n1_; have HO_17 := n2_; have BK197 := n3_; have BK229 := n4_; have HB := n5_; clear n0_ n1_ n2_ n3_ n4_ n5_; (try (have HP90 := Kd.R_putg HO_17.out (((rd_T37 l0_2 x19_2).f1) : Int) 1)))); refine store_event (t := 3) (p := 178) (v := ?vo_w91) (w1 := (wr.setCell ⟨go86, (((rd_T37 l0_2 x19_2).f1) : Int).toNat, none⟩ (.int .i64 1))) ?hg ?ho ?hn ?hr ?_; (case ho => rfl); (case hg => rfl); (case hn => rfl); (case hr => first | (go_simp; done) | (go_simp; rfl)); intro w91 hw; have hg : wr.grownBy w91 (some go86) := (by rw [hw]; exact HP90.2); have hp_ : Kd.R (Kd.int .i64) 3 w91 w.heap.size (fun _ => True) (.slice (some ⟨go86, 0, none⟩) x17_2.length co86) y236 := (by rw [hw, Ny236.out]; exact HP90.1); clear HP90; have n0_ := Aside0.mk (Kd.R_over' (v := (.slice (some ⟨go86, 0, none⟩) x17_2.length co86)) (by (with_reducible repeat (first | apply Kd.R_alloc | apply Kd.R_drewN | apply Kd.R_drew)); exact HO_11.out) (Kd.R_typed HO_17.out) (by decide) hg); have n1_ := Aside0.mk (Kd.R_over' (v := (.slice (some ⟨go86, 0, none⟩) x17_2.length co86)) (by (with_reducible repeat (first | apply Kd.R_alloc | apply Kd.R_drewN | apply Kd.R_drew)); exact HO_13.out) (Kd.R_typed HO_17.out) (by decide) hg); have n2_ := Aside0.mk (hp_); have n3_ := Aside0.mk (blk_grown (g := gb197) (o := .cells #[.int .i64 a0_0, .slice A0_1 l0_1.length c0_1, .slice (some ad228) l0_2.length c0_2, .slice A0_3 l0_3.length c0_3] 25 (0, 0)) (by (with_reducible repeat (first | refine blk_drewN ?_ _ | refine blk_drew ?_ | refine blk_alloc ?_ _)); exact BK197.out) hg (Kd.R_ne HO_17.out BK197.out (by decide))); have n4_ := Aside0.mk (blk_grown (g := gb229) (o := .cells #[.int .i64 ((rd_T37 l0_2 x19_2).f0), .int .i64 ((rd_T37 l0_2 x19_2).f1), .slice A228_2 ((rd_T37 l0_2 x19_2).f2).length c228_2] 37 (0, 0)) (by (with_reducible repeat (first | refine blk_drewN ?_ _ | refine blk_drew ?_ | refine blk_alloc ?_ _)); exact BK229.out) hg (Kd.R_ne HO_17.out BK229.out (by decide))); have n5_ := Aside0.mk ((by rw [hw]; exact below_set (HB.out) GB86.out : Below w.heap.size w w91)); clear HO_11; clear HO_13; clear HO_17; clear BK197; clear BK229; clear HB; have HO_11 := n0_; have HO_13 := n1_; have HO_17 := n2_; have BK197 := n3_; have BK229 := n4_; have HB := n5_; clear n0_ n1_ n2_ n3_ n4_ n5_; clear hg hw hp_))
                                                  go_roundg k3
                                                  case measure => have := HK1.out; have := HK2.out; have := HK3.out; omega
                                                  case rel => exact ⟨(y236), (wrap64 (x19_2 + 1)), (by first | rfl | (simp; done) | (simp [*]; done)), H', ⟨by have := HK1.out; have := HK2.out; have := HK3.out; omega⟩, ⟨by (with_reducible repeat (first | apply Kd.R_alloc | apply Kd.R_drewN | apply Kd.R_drew)); exact HO_11.out⟩, ⟨by (with_reducible repeat (first | apply Kd.R_alloc | apply Kd.R_drewN | apply Kd.R_drew)); exact HO_13.out⟩, ⟨by (with_reducible repeat (first | apply Kd.R_alloc | apply Kd.R_drewN | apply Kd.R_drew)); exact HO_17.out⟩, ⟨by (with_reducible repeat (first | refine blk_drewN ?_ _ | refine blk_drew ?_ | refine blk_alloc ?_ _)); exact BK197.out⟩, ⟨by repeat (first | (with_reducible first | exact HB.out | apply below_alloc | apply pw_below_drewN | apply below_drew1 | refine below_set ?_ GE197.out | refine below_set ?_ GE229.out) | exact HB.out)⟩⟩
                                                · replace c87 := Bool.eq_false_iff.mpr c87
                                                  subst c87
                                                  have H1 : (if (rd y236 ((rd_T37 l0_2 x19_2).f1)) = 0 then (lexpriorlaw14_StrictConditions.l1 k3 t211 t215 (y236.set (((rd_T37 l0_2 x19_2).f1) : Int).toNat 2) (wrap64 (x19_2 + 1)) a0_0 l0_1 l0_2 l0_3) else (lexpriorlaw14_StrictConditions.l1 k3 t211 t215 y236 (wrap64 (x19_2 + 1)) a0_0 l0_1 l0_2 l0_3)) = some r := by rw [if_neg (show ¬ (false = true) by decide)] at H; exact H
                                                  clear H
                                                  have H := H1
                                                  clear H1
                                                  by_cases c92 : (rd y236 ((rd_T37 l0_2 x19_2).f1)) = 0
                                                  · rw [if_pos c92] at H
                                                    have c92b0 : ((rd y236 ((rd_T37 l0_2 x19_2).f1)) == 0) = true := beq_iff_eq.mpr c92
                                                    have c92b1 : ((rd y236 ((rd_T37 l0_2 x19_2).f1)) != 0) = false := bne_eq_false_iff_eq.mpr c92
                                                    clear c92
                                                    obtain ⟨y238, hy238⟩ : ∃ y_ : List Int, y_ = (y236.set (((rd_T37 l0_2 x19_2).f1) : Int).toNat 2) := ⟨_, rfl⟩
                                                    replace H : (lexpriorlaw14_StrictConditions.l1 k3 t211 t215 y238 (wrap64 (x19_2 + 1)) a0_0 l0_1 l0_2 l0_3) = some r := by first | (rw [hy238]; with_reducible exact H) | (have H2_ := (Option.bind_some _ _).symm.trans H; rw [hy238]; with_reducible exact H2_) | (have H2_ := (Option.bind_some _ _).symm.trans H; with_reducible exact H2_) | with_reducible exact H | (rw [hy238]; exact H) | exact H
                                                    have Ny238 := Aside0.mk hy238
                                                    clear hy238
                                                    have H' := Aside0.mk H
                                                    clear H
                                                    have hnb94 := NB229_197.out
                                                    have hnc94 := NB197_229.out
                                                    have hcz95_0 : wr.cell? ⟨gb229, 0, none⟩ = some (.int .i64 ((rd_T37 l0_2 x19_2).f0)) := (blk_cell BK229.out 0).trans rfl
                                                    have hcz95_1 : wr.cell? ⟨gb229, 1, none⟩ = some (.int .i64 ((rd_T37 l0_2 x19_2).f1)) := (blk_cell BK229.out 1).trans rfl
                                                    have hcz95_2 : wr.cell? ⟨gb229, 2, none⟩ = some (.slice A228_2 ((rd_T37 l0_2 x19_2).f2).length c228_2) := (blk_cell BK229.out 2).trans rfl
                                                    have hfz95_0 := blk_frozen BK229.out 0
                                                    have hfz95_1 := blk_frozen BK229.out 1
                                                    have hfz95_2 := blk_frozen BK229.out 2
                                                    have p86 : 0 ≤ (((rd_T37 l0_2 x19_2).f1) : Int) := of_decide_eq_true (by first | (with_reducible assumption) | assumption)
                                                    have q86 : (((rd_T37 l0_2 x19_2).f1) : Int) < ((x17_2.length : Int) : Int) := of_decide_eq_true (by first | (with_reducible assumption) | assumption)
                                                    obtain ⟨go86, co86, eo86, gb86, gl86, cl86, HG86⟩ := Kd.R_form HO_17.out (by omega)
                                                    (first | cases eo86 | (injection eo86 with ea_ en_ ec_; (first | subst ea_ | (injection ea_ with ea_; subst ea_)); subst ec_; clear en_))
                                                    have GB86 := Aside0.mk gb86
                                                    have GG86 := Aside0.mk HG86
                                                    clear gb86 gl86 HG86
                                                    obtain ⟨hx86_0, hf86_0⟩ := Kd.R_celln 0 HO_17.out (((rd_T37 l0_2 x19_2).f1) : Int) p86 q86
                                                    replace p86 := eq_true p86
                                                    replace q86 := eq_true q86
                                                    have HP96 := Kd.R_putg HO_17.out (((rd_T37 l0_2 x19_2).f1) : Int) 1
                                                    go_wp2_with (first | ((with_reducible refine gate_store (t := 3) (p := 178) rfl ?_); (try (rw [drewN_self wr]; generalize hq_ : World.drewN wr _ = wr; have n0_ := Aside0.mk (Kd.R_at hq_ HO_11.out); have n1_ := Aside0.mk (Kd.R_at hq_ HO_13.out); have n2_ := Aside0.mk (Kd.R_at hq_ HO_17.out); have n3_ := Aside0.mk (blk_at hq_ BK197.out); have n4_ := Aside0.mk (blk_at hq_ BK229.out); have n5_ := Aside0.mk (below_at hq_ HB.out); clear hq_ HO_11 HO_13 HO_17 BK197 BK229 HB; have HO_11 := n0_; have HO_13 := n1_; have HO_17 := n2_; have BK197 := n3_; have BK229 := n4_; have HB := n5_; clear n0_ n1_ n2_ n3_ n4_ n5_; (try (have HP96 := Kd.R_putg HO_17.out (((rd_T37 l0_2 x19_2).f1) : Int) 1)))); refine store_event (t := 3) (p := 178) (v := ?vo_w97) (w1 := (wr.setCell ⟨go86, (((rd_T37 l0_2 x19_2).f1) : Int).toNat, none⟩ (.int .i64 1))) ?hg ?ho ?hn ?hr ?_; (case ho => rfl); (case hg => rfl); (case hn => rfl); (case hr => first | (go_simp; done) | (go_simp; rfl)); intro w97 hw; have hg : wr.grownBy w97 (some go86) := (by rw [hw]; exact HP96.2); have hp_ : Kd.R (Kd.int .i64) 3 w97 w.heap.size (fun _ => True) (.slice (some ⟨go86, 0, none⟩) x17_2.length co86) y236 := (by rw [hw, Ny236.out]; exact HP96.1); clear HP96; have n0_ := Aside0.mk (Kd.R_over' (v := (.slice (some ⟨go86, 0, none⟩) x17_2.length co86)) (by (with_reducible repeat (first | apply Kd.R_alloc | apply Kd.R_drewN | apply Kd.R_drew)); exact HO_11.out) (Kd.R_typed HO_17.out) (by decide) hg); have n1_ := Aside0.mk (Kd.R_over' (v := (.slice (some ⟨go86, 0, none⟩) x17_2.length co86)) (by (with_reducible repeat (first | apply Kd.R_alloc | apply Kd.R_drewN | apply Kd.R_drew)); exact HO_13.out) (Kd.R_typed HO_17.out) (by decide) hg); have n2_ := Aside0.mk (hp_); have n3_ := Aside0.mk (blk_grown (g := gb197) (o := .cells #[.int .i64 a0_0, .slice A0_1 l0_1.length c0_1, .slice (some ad228) l0_2.length c0_2, .slice A0_3 l0_3.length c0_3] 25 (0, 0)) (by (with_reducible repeat (first | refine blk_drewN ?_ _ | refine blk_drew ?_ | refine blk_alloc ?_ _)); exact BK197.out) hg (Kd.R_ne HO_17.out BK197.out (by decide))); have n4_ := Aside0.mk (blk_grown (g := gb229) (o := .cells #[.int .i64 ((rd_T37 l0_2 x19_2).f0), .int .i64 ((rd_T37 l0_2 x19_2).f1), .slice A228_2 ((rd_T37 l0_2 x19_2).f2).length c228_2] 37 (0, 0)) (by (with_reducible repeat (first | refine blk_drewN ?_ _ | refine blk_drew ?_ | refine blk_alloc ?_ _)); exact BK229.out) hg (Kd.R_ne HO_17.out BK229.out (by decide))); have n5_ := Aside0.mk ((by rw [hw]; exact below_set (HB.out) GB86.out : Below w.heap.size w w97)); clear HO_11; clear HO_13; clear HO_17; clear BK197; clear BK229; clear HB; have HO_11 := n0_; have HO_13 := n1_; have HO_17 := n2_; have BK197 := n3_; have BK229 := n4_; have HB := n5_; clear n0_ n1_ n2_ n3_ n4_ n5_; clear hg hw hp_; have hcz98_0 : w97.cell? ⟨gb229, 0, none⟩ = some (.int .i64 ((rd_T37 l0_2 x19_2).f0)) := (blk_cell BK229.out 0).trans rfl; have hcz98_1 : w97.cell? ⟨gb229, 1, none⟩ = some (.int .i64 ((rd_T37 l0_2 x19_2).f1)) := (blk_cell BK229.out 1).trans rfl; have hcz98_2 : w97.cell? ⟨gb229, 2, none⟩ = some (.slice A228_2 ((rd_T37 l0_2 x19_2).f2).length c228_2) := (blk_cell BK229.out 2).trans rfl; have hfz98_0 := blk_frozen BK229.out 0; have hfz98_1 := blk_frozen BK229.out 1; have hfz98_2 := blk_frozen BK229.out 2; have p237 : 0 ≤ (((rd_T37 l0_2 x19_2).f1) : Int) := of_decide_eq_true (by first | (with_reducible assumption) | assumption); have q237 : ((rd_T37 l0_2 x19_2).f1) < (y236.length : Int) := (by have h_ : (((rd_T37 l0_2 x19_2).f1) : Int) < ((x17_2.length : Int) : Int) := of_decide_eq_true (by first | (with_reducible assumption) | assumption); first | (have e_ := (Kd.R_reads' HO_17.out).1; omega) | simpa only [Ny236.out, List.length_set] using h_); have ql237 : ((((rd_T37 l0_2 x19_2).f1) : Int) < ((x17_2.length : Int) : Int)) = True := eq_true (of_decide_eq_true (by first | (with_reducible assumption) | assumption)); obtain ⟨ad237, e237, hx237_0⟩ := Kd.at_int (Kd.R_reads' HO_17.out).2.2 ((rd_T37 l0_2 x19_2).f1) p237 q237; obtain rfl : (⟨go86, 0, none⟩ : Addr) = ad237 := (by injection e237); (first | simp only [add_plain] at hx237_0 | simp only [add_at] at hx237_0 | simp only [Addr.add, Nat.zero_add] at hx237_0 | skip); replace p237 := eq_true p237; replace q237 := eq_true q237; have p93 : 0 ≤ (((rd_T37 l0_2 x19_2).f1) : Int) := of_decide_eq_true (by first | (with_reducible assumption) | assumption); have q93 : (((rd_T37 l0_2 x19_2).f1) : Int) < ((x17_2.length : Int) : Int) := of_decide_eq_true (by first | (with_reducible assumption) | assumption); obtain ⟨hx93_0, hf93_0⟩ := Kd.R_celln 0 HO_17.out (((rd_T37 l0_2 x19_2).f1) : Int) p93 q93; replace p93 := eq_true p93; replace q93 := eq_true q93; obtain ⟨hy99_, hz99_⟩ := Kd.R_celln 0 HO_17.out (((rd_T37 l0_2 x19_2).f1) : Int) (of_decide_eq_true (by first | (with_reducible assumption) | assumption)) (of_decide_eq_true (by first | (with_reducible assumption) | assumption)); have HP99 := Kd.R_putg HO_17.out (((rd_T37 l0_2 x19_2).f1) : Int) 2) | ((with_reducible refine gate_store (t := 3) (p := 192) rfl ?_); (try (rw [drewN_self w97]; generalize hq_ : World.drewN w97 _ = w97; have n0_ := Aside0.mk (Kd.R_at hq_ HO_11.out); have n1_ := Aside0.mk (Kd.R_at hq_ HO_13.out); have n2_ := Aside0.mk (Kd.R_at hq_ HO_17.out); have n3_ := Aside0.mk (blk_at hq_ BK197.out); have n4_ := Aside0.mk (blk_at hq_ BK229.out); have n5_ := Aside0.mk (below_at hq_ HB.out); clear hq_ HO_11 HO_13 HO_17 BK197 BK229 HB; have HO_11 := n0_; have HO_13 := n1_; have HO_17 := n2_; have BK197 := n3_; have BK229 := n4_; have HB := n5_; clear n0_ n1_ n2_ n3_ n4_ n5_; (try (obtain ⟨hy99_, hz99_⟩ := Kd.R_celln 0 HO_17.out (((rd_T37 l0_2 x19_2).f1) : Int) (of_decide_eq_true (by first | (with_reducible assumption) | assumption)) (of_decide_eq_true (by first | (with_reducible assumption) | assumption)))); (try (have HP99 := Kd.R_putg HO_17.out (((rd_T37 l0_2 x19_2).f1) : Int) 2)))); refine store_event (t := 3) (p := 192) (v := ?vo_w100) (w1 := (w97.setCell ⟨go86, (((rd_T37 l0_2 x19_2).f1) : Int).toNat, none⟩ (.int .i64 2))) ?hg ?ho ?hn ?hr ?_; (case ho => rfl); (case hg => rfl); (case hn => rfl); (case hr => first | (go_simp; done) | (go_simp; rfl)); intro w100 hw; have hg : w97.grownBy w100 (some go86) := (by rw [hw]; exact HP99.2); have hp_ : Kd.R (Kd.int .i64) 3 w100 w.heap.size (fun _ => True) (.slice (some ⟨go86, 0, none⟩) x17_2.length co86) y238 := (by rw [hw, Ny238.out]; exact HP99.1); clear HP99; have n0_ := Aside0.mk (Kd.R_over' (v := (.slice (some ⟨go86, 0, none⟩) x17_2.length co86)) (by (with_reducible repeat (first | apply Kd.R_alloc | apply Kd.R_drewN | apply Kd.R_drew)); exact HO_11.out) (Kd.R_typed HO_17.out) (by decide) hg); have n1_ := Aside0.mk (Kd.R_over' (v := (.slice (some ⟨go86, 0, none⟩) x17_2.length co86)) (by (with_reducible repeat (first | apply Kd.R_alloc | apply Kd.R_drewN | apply Kd.R_drew)); exact HO_13.out) (Kd.R_typed HO_17.out) (by decide) hg); have n2_ := Aside0.mk (hp_); have n3_ := Aside0.mk (blk_grown (g := gb197) (o := .cells #[.int .i64 a0_0, .slice A0_1 l0_1.length c0_1, .slice (some ad228) l0_2.length c0_2, .slice A0_3 l0_3.length c0_3] 25 (0, 0)) (by (with_reducible repeat (first | refine blk_drewN ?_ _ | refine blk_drew ?_ | refine blk_alloc ?_ _)); exact BK197.out) hg (Kd.R_ne HO_17.out BK197.out (by decide))); have n4_ := Aside0.mk (blk_grown (g := gb229) (o := .cells #[.int .i64 ((rd_T37 l0_2 x19_2).f0), .int .i64 ((rd_T37 l0_2 x19_2).f1), .slice A228_2 ((rd_T37 l0_2 x19_2).f2).length c228_2] 37 (0, 0)) (by (with_reducible repeat (first | refine blk_drewN ?_ _ | refine blk_drew ?_ | refine blk_alloc ?_ _)); exact BK229.out) hg (Kd.R_ne HO_17.out BK229.out (by decide))); have n5_ := Aside0.mk ((by rw [hw]; exact below_set (HB.out) GB86.out : Below w.heap.size w w100)); clear HO_11; clear HO_13; clear HO_17; clear BK197; clear BK229; clear HB; have HO_11 := n0_; have HO_13 := n1_; have HO_17 := n2_; have BK197 := n3_; have BK229 := n4_; have HB := n5_; clear n0_ n1_ n2_ n3_ n4_ n5_; clear hg hw hp_))
                                                    go_roundg k3
                                                    case measure => have := HK1.out; have := HK2.out; have := HK3.out; omega
                                                    case rel => exact ⟨(y238), (wrap64 (x19_2 + 1)), (by first | rfl | (simp; done) | (simp [*]; done)), H', ⟨by have := HK1.out; have := HK2.out; have := HK3.out; omega⟩, ⟨by (with_reducible repeat (first | apply Kd.R_alloc | apply Kd.R_drewN | apply Kd.R_drew)); exact HO_11.out⟩, ⟨by (with_reducible repeat (first | apply Kd.R_alloc | apply Kd.R_drewN | apply Kd.R_drew)); exact HO_13.out⟩, ⟨by (with_reducible repeat (first | apply Kd.R_alloc | apply Kd.R_drewN | apply Kd.R_drew)); exact HO_17.out⟩, ⟨by (with_reducible repeat (first | refine blk_drewN ?_ _ | refine blk_drew ?_ | refine blk_alloc ?_ _)); exact BK197.out⟩, ⟨by repeat (first | (with_reducible first | exact HB.out | apply below_alloc | apply pw_below_drewN | apply below_drew1 | refine below_set ?_ GE197.out | refine below_set ?_ GE229.out) | exact HB.out)⟩⟩
                                                  · rw [if_neg c92] at H
                                                    have c92b0 : ((rd y236 ((rd_T37 l0_2 x19_2).f1)) == 0) = false := beq_eq_false_iff_ne.mpr c92
                                                    have c92b1 : ((rd y236 ((rd_T37 l0_2 x19_2).f1)) != 0) = true := bne_iff_ne.mpr c92
                                                    have H' := Aside0.mk H
                                                    clear H
                                                    have hnb101 := NB229_197.out
                                                    have hnc101 := NB197_229.out
                                                    have hcz102_0 : wr.cell? ⟨gb229, 0, none⟩ = some (.int .i64 ((rd_T37 l0_2 x19_2).f0)) := (blk_cell BK229.out 0).trans rfl
                                                    have hcz102_1 : wr.cell? ⟨gb229, 1, none⟩ = some (.int .i64 ((rd_T37 l0_2 x19_2).f1)) := (blk_cell BK229.out 1).trans rfl
                                                    have hcz102_2 : wr.cell? ⟨gb229, 2, none⟩ = some (.slice A228_2 ((rd_T37 l0_2 x19_2).f2).length c228_2) := (blk_cell BK229.out 2).trans rfl
                                                    have hfz102_0 := blk_frozen BK229.out 0
                                                    have hfz102_1 := blk_frozen BK229.out 1
                                                    have hfz102_2 := blk_frozen BK229.out 2
                                                    have p86 : 0 ≤ (((rd_T37 l0_2 x19_2).f1) : Int) := of_decide_eq_true (by first | (with_reducible assumption) | assumption)
                                                    have q86 : (((rd_T37 l0_2 x19_2).f1) : Int) < ((x17_2.length : Int) : Int) := of_decide_eq_true (by first | (with_reducible assumption) | assumption)
                                                    obtain ⟨go86, co86, eo86, gb86, gl86, cl86, HG86⟩ := Kd.R_form HO_17.out (by omega)
                                                    (first | cases eo86 | (injection eo86 with ea_ en_ ec_; (first | subst ea_ | (injection ea_ with ea_; subst ea_)); subst ec_; clear en_))
                                                    have GB86 := Aside0.mk gb86
                                                    have GG86 := Aside0.mk HG86
                                                    clear gb86 gl86 HG86
                                                    obtain ⟨hx86_0, hf86_0⟩ := Kd.R_celln 0 HO_17.out (((rd_T37 l0_2 x19_2).f1) : Int) p86 q86
                                                    replace p86 := eq_true p86
                                                    replace q86 := eq_true q86
                                                    have HP103 := Kd.R_putg HO_17.out (((rd_T37 l0_2 x19_2).f1) : Int) 1
                                                    go_wp2_with (first | ((with_reducible refine gate_store (t := 3) (p := 178) rfl ?_); (try (rw [drewN_self wr]; generalize hq_ : World.drewN wr _ = wr; have n0_ := Aside0.mk (Kd.R_at hq_ HO_11.out); have n1_ := Aside0.mk (Kd.R_at hq_ HO_13.out); have n2_ := Aside0.mk (Kd.R_at hq_ HO_17.out); have n3_ := Aside0.mk (blk_at hq_ BK197.out); have n4_ := Aside0.mk (blk_at hq_ BK229.out); have n5_ := Aside0.mk (below_at hq_ HB.out); clear hq_ HO_11 HO_13 HO_17 BK197 BK229 HB; have HO_11 := n0_; have HO_13 := n1_; have HO_17 := n2_; have BK197 := n3_; have BK229 := n4_; have HB := n5_; clear n0_ n1_ n2_ n3_ n4_ n5_; (try (have HP103 := Kd.R_putg HO_17.out (((rd_T37 l0_2 x19_2).f1) : Int) 1)))); refine store_event (t := 3) (p := 178) (v := ?vo_w104) (w1 := (wr.setCell ⟨go86, (((rd_T37 l0_2 x19_2).f1) : Int).toNat, none⟩ (.int .i64 1))) ?hg ?ho ?hn ?hr ?_; (case ho => rfl); (case hg => rfl); (case hn => rfl); (case hr => first | (go_simp; done) | (go_simp; rfl)); intro w104 hw; have hg : wr.grownBy w104 (some go86) := (by rw [hw]; exact HP103.2); have hp_ : Kd.R (Kd.int .i64) 3 w104 w.heap.size (fun _ => True) (.slice (some ⟨go86, 0, none⟩) x17_2.length co86) y236 := (by rw [hw, Ny236.out]; exact HP103.1); clear HP103; have n0_ := Aside0.mk (Kd.R_over' (v := (.slice (some ⟨go86, 0, none⟩) x17_2.length co86)) (by (with_reducible repeat (first | apply Kd.R_alloc | apply Kd.R_drewN | apply Kd.R_drew)); exact HO_11.out) (Kd.R_typed HO_17.out) (by decide) hg); have n1_ := Aside0.mk (Kd.R_over' (v := (.slice (some ⟨go86, 0, none⟩) x17_2.length co86)) (by (with_reducible repeat (first | apply Kd.R_alloc | apply Kd.R_drewN | apply Kd.R_drew)); exact HO_13.out) (Kd.R_typed HO_17.out) (by decide) hg); have n2_ := Aside0.mk (hp_); have n3_ := Aside0.mk (blk_grown (g := gb197) (o := .cells #[.int .i64 a0_0, .slice A0_1 l0_1.length c0_1, .slice (some ad228) l0_2.length c0_2, .slice A0_3 l0_3.length c0_3] 25 (0, 0)) (by (with_reducible repeat (first | refine blk_drewN ?_ _ | refine blk_drew ?_ | refine blk_alloc ?_ _)); exact BK197.out) hg (Kd.R_ne HO_17.out BK197.out (by decide))); have n4_ := Aside0.mk (blk_grown (g := gb229) (o := .cells #[.int .i64 ((rd_T37 l0_2 x19_2).f0), .int .i64 ((rd_T37 l0_2 x19_2).f1), .slice A228_2 ((rd_T37 l0_2 x19_2).f2).length c228_2] 37 (0, 0)) (by (with_reducible repeat (first | refine blk_drewN ?_ _ | refine blk_drew ?_ | refine blk_alloc ?_ _)); exact BK229.out) hg (Kd.R_ne HO_17.out BK229.out (by decide))); have n5_ := Aside0.mk ((by rw [hw]; exact below_set (HB.out) GB86.out : Below w.heap.size w w104)); clear HO_11; clear HO_13; clear HO_17; clear BK197; clear BK229; clear HB; have HO_11 := n0_; have HO_13 := n1_; have HO_17 := n2_; have BK197 := n3_; have BK229 := n4_; have HB := n5_; clear n0_ n1_ n2_ n3_ n4_ n5_; clear hg hw hp_; have hcz105_0 : w104.cell? ⟨gb229, 0, none⟩ = some (.int .i64 ((rd_T37 l0_2 x19_2).f0)) := (blk_cell BK229.out 0).trans rfl; have hcz105_1 : w104.cell? ⟨gb229, 1, none⟩ = some (.int .i64 ((rd_T37 l0_2 x19_2).f1)) := (blk_cell BK229.out 1).trans rfl; have hcz105_2 : w104.cell? ⟨gb229, 2, none⟩ = some (.slice A228_2 ((rd_T37 l0_2 x19_2).f2).length c228_2) := (blk_cell BK229.out 2).trans rfl; have hfz105_0 := blk_frozen BK229.out 0; have hfz105_1 := blk_frozen BK229.out 1; have hfz105_2 := blk_frozen BK229.out 2; have p237 : 0 ≤ (((rd_T37 l0_2 x19_2).f1) : Int) := of_decide_eq_true (by first | (with_reducible assumption) | assumption); have q237 : ((rd_T37 l0_2 x19_2).f1) < (y236.length : Int) := (by have h_ : (((rd_T37 l0_2 x19_2).f1) : Int) < ((x17_2.length : Int) : Int) := of_decide_eq_true (by first | (with_reducible assumption) | assumption); first | (have e_ := (Kd.R_reads' HO_17.out).1; omega) | simpa only [Ny236.out, List.length_set] using h_); have ql237 : ((((rd_T37 l0_2 x19_2).f1) : Int) < ((x17_2.length : Int) : Int)) = True := eq_true (of_decide_eq_true (by first | (with_reducible assumption) | assumption)); obtain ⟨ad237, e237, hx237_0⟩ := Kd.at_int (Kd.R_reads' HO_17.out).2.2 ((rd_T37 l0_2 x19_2).f1) p237 q237; obtain rfl : (⟨go86, 0, none⟩ : Addr) = ad237 := (by injection e237); (first | simp only [add_plain] at hx237_0 | simp only [add_at] at hx237_0 | simp only [Addr.add, Nat.zero_add] at hx237_0 | skip); replace p237 := eq_true p237; replace q237 := eq_true q237))
                                                    go_roundg k3
                                                    case measure => have := HK1.out; have := HK2.out; have := HK3.out; omega
                                                    case rel => exact ⟨(y236), (wrap64 (x19_2 + 1)), (by first | rfl | (simp; done) | (simp [*]; done)), H', ⟨by have := HK1.out; have := HK2.out; have := HK3.out; omega⟩, ⟨by (with_reducible repeat (first | apply Kd.R_alloc | apply Kd.R_drewN | apply Kd.R_drew)); exact HO_11.out⟩, ⟨by (with_reducible repeat (first | apply Kd.R_alloc | apply Kd.R_drewN | apply Kd.R_drew)); exact HO_13.out⟩, ⟨by (with_reducible repeat (first | apply Kd.R_alloc | apply Kd.R_drewN | apply Kd.R_drew)); exact HO_17.out⟩, ⟨by (with_reducible repeat (first | refine blk_drewN ?_ _ | refine blk_drew ?_ | refine blk_alloc ?_ _)); exact BK197.out⟩, ⟨by repeat (first | (with_reducible first | exact HB.out | apply below_alloc | apply pw_below_drewN | apply below_drew1 | refine below_set ?_ GE197.out | refine below_set ?_ GE229.out) | exact HB.out)⟩⟩
                                              · rw [if_neg c85] at H
                                                exact absurd H (by simp)
                                            · rw [if_neg c84] at H
                                              exact absurd H (by simp)
                                          · replace c83 := Bool.eq_false_iff.mpr c83
                                            subst c83
                                            have H1 : (if x22_3 = true then (lexpriorlaw14_StrictConditions.l1 k3 t211 t215 x17_2 (wrap64 (x19_2 + 1)) a0_0 l0_1 l0_2 l0_3) else (if 0 ≤ ((rd_T37 l0_2 x19_2).f1) then (if ((rd_T37 l0_2 x19_2).f1) < (x17_2.length : Int) then (if (rd x17_2 ((rd_T37 l0_2 x19_2).f1)) = 0 then (lexpriorlaw14_StrictConditions.l1 k3 t211 t215 (x17_2.set (((rd_T37 l0_2 x19_2).f1) : Int).toNat 2) (wrap64 (x19_2 + 1)) a0_0 l0_1 l0_2 l0_3) else (lexpriorlaw14_StrictConditions.l1 k3 t211 t215 x17_2 (wrap64 (x19_2 + 1)) a0_0 l0_1 l0_2 l0_3)) else (none)) else (none))) = some r := by rw [if_neg (show ¬ (false = true) by decide)] at H; exact H
                                            clear H
                                            have H := H1
                                            clear H1
                                            by_cases c106 : x22_3 = true
                                            · subst c106
                                              have H1 : (lexpriorlaw14_StrictConditions.l1 k3 t211 t215 x17_2 (wrap64 (x19_2 + 1)) a0_0 l0_1 l0_2 l0_3) = some r := by rw [if_pos rfl] at H; exact H
                                              clear H
                                              have H := H1
                                              clear H1
                                              have H' := Aside0.mk H
                                              clear H
                                              have hnb107 := NB229_197.out
                                              have hnc107 := NB197_229.out
                                              have hcz108_0 : wr.cell? ⟨gb229, 0, none⟩ = some (.int .i64 ((rd_T37 l0_2 x19_2).f0)) := (blk_cell BK229.out 0).trans rfl
                                              have hcz108_1 : wr.cell? ⟨gb229, 1, none⟩ = some (.int .i64 ((rd_T37 l0_2 x19_2).f1)) := (blk_cell BK229.out 1).trans rfl
                                              have hcz108_2 : wr.cell? ⟨gb229, 2, none⟩ = some (.slice A228_2 ((rd_T37 l0_2 x19_2).f2).length c228_2) := (blk_cell BK229.out 2).trans rfl
                                              have hfz108_0 := blk_frozen BK229.out 0
                                              have hfz108_1 := blk_frozen BK229.out 1
                                              have hfz108_2 := blk_frozen BK229.out 2
                                              go_wp2
                                              repeat (go_quiet (fail); try go_wp2)
                                              go_roundg k3
                                              case measure => have := HK1.out; have := HK2.out; have := HK3.out; omega
                                              case rel => exact ⟨(x17_2), (wrap64 (x19_2 + 1)), (by first | rfl | (simp; done) | (simp [*]; done)), H', ⟨by have := HK1.out; have := HK2.out; have := HK3.out; omega⟩, ⟨by (with_reducible repeat (first | apply Kd.R_alloc | apply Kd.R_drewN | apply Kd.R_drew)); exact HO_11.out⟩, ⟨by (with_reducible repeat (first | apply Kd.R_alloc | apply Kd.R_drewN | apply Kd.R_drew)); exact HO_13.out⟩, ⟨by (with_reducible repeat (first | apply Kd.R_alloc | apply Kd.R_drewN | apply Kd.R_drew)); exact HO_17.out⟩, ⟨by (with_reducible repeat (first | refine blk_drewN ?_ _ | refine blk_drew ?_ | refine blk_alloc ?_ _)); exact BK197.out⟩, ⟨by repeat (first | (with_reducible first | exact HB.out | apply below_alloc | apply pw_below_drewN | apply below_drew1 | refine below_set ?_ GE197.out | refine below_set ?_ GE229.out) | exact HB.out)⟩⟩
                                            · replace c106 := Bool.eq_false_iff.mpr c106
                                              subst c106
                                              have H1 : (if 0 ≤ ((rd_T37 l0_2 x19_2).f1) then (if ((rd_T37 l0_2 x19_2).f1) < (x17_2.length : Int) then (if (rd x17_2 ((rd_T37 l0_2 x19_2).f1)) = 0 then (lexpriorlaw14_StrictConditions.l1 k3 t211 t215 (x17_2.set (((rd_T37 l0_2 x19_2).f1) : Int).toNat 2) (wrap64 (x19_2 + 1)) a0_0 l0_1 l0_2 l0_3) else (lexpriorlaw14_StrictConditions.l1 k3 t211 t215 x17_2 (wrap64 (x19_2 + 1)) a0_0 l0_1 l0_2 l0_3)) else (none)) else (none)) = some r := by rw [if_neg (show ¬ (false = true) by decide)] at H; exact H
                                              clear H
                                              have H := H1
                                              clear H1
                                              by_cases c109 : 0 ≤ ((rd_T37 l0_2 x19_2).f1)
                                              · rw [if_pos c109] at H
                                                have c109b0 : decide (0 ≤ ((rd_T37 l0_2 x19_2).f1)) = true := decide_eq_true c109
                                                clear c109
                                                by_cases c110 : ((rd_T37 l0_2 x19_2).f1) < (x17_2.length : Int)
                                                · rw [if_pos c110] at H
                                                  have c110b0 : decide (((rd_T37 l0_2 x19_2).f1) < (x17_2.length : Int)) = true := decide_eq_true c110
                                                  clear c110
                                                  by_cases c111 : (rd x17_2 ((rd_T37 l0_2 x19_2).f1)) = 0
                                                  · rw [if_pos c111] at H
                                                    have c111b0 : ((rd x17_2 ((rd_T37 l0_2 x19_2).f1)) == 0) = true := beq_iff_eq.mpr c111
                                                    have c111b1 : ((rd x17_2 ((rd_T37 l0_2 x19_2).f1)) != 0) = false := bne_eq_false_iff_eq.mpr c111
                                                    clear c111
                                                    obtain ⟨y240, hy240⟩ : ∃ y_ : List Int, y_ = (x17_2.set (((rd_T37 l0_2 x19_2).f1) : Int).toNat 2) := ⟨_, rfl⟩
                                                    replace H : (lexpriorlaw14_StrictConditions.l1 k3 t211 t215 y240 (wrap64 (x19_2 + 1)) a0_0 l0_1 l0_2 l0_3) = some r := by first | (rw [hy240]; with_reducible exact H) | (have H2_ := (Option.bind_some _ _).symm.trans H; rw [hy240]; with_reducible exact H2_) | (have H2_ := (Option.bind_some _ _).symm.trans H; with_reducible exact H2_) | with_reducible exact H | (rw [hy240]; exact H) | exact H
                                                    have Ny240 := Aside0.mk hy240
                                                    clear hy240
                                                    have H' := Aside0.mk H
                                                    clear H
                                                    have hnb113 := NB229_197.out
                                                    have hnc113 := NB197_229.out
                                                    have hcz114_0 : wr.cell? ⟨gb229, 0, none⟩ = some (.int .i64 ((rd_T37 l0_2 x19_2).f0)) := (blk_cell BK229.out 0).trans rfl
                                                    have hcz114_1 : wr.cell? ⟨gb229, 1, none⟩ = some (.int .i64 ((rd_T37 l0_2 x19_2).f1)) := (blk_cell BK229.out 1).trans rfl
                                                    have hcz114_2 : wr.cell? ⟨gb229, 2, none⟩ = some (.slice A228_2 ((rd_T37 l0_2 x19_2).f2).length c228_2) := (blk_cell BK229.out 2).trans rfl
                                                    have hfz114_0 := blk_frozen BK229.out 0
                                                    have hfz114_1 := blk_frozen BK229.out 1
                                                    have hfz114_2 := blk_frozen BK229.out 2
                                                    obtain ⟨Ao115, co115, eo115⟩ := Kd.R_slice HO_17.out
                                                    subst eo115
                                                    have p239 : 0 ≤ (((rd_T37 l0_2 x19_2).f1) : Int) := of_decide_eq_true (by first | (with_reducible assumption) | assumption)
                                                    have q239 : ((rd_T37 l0_2 x19_2).f1) < (x17_2.length : Int) := of_decide_eq_true (by first | (with_reducible assumption) | assumption)
                                                    obtain ⟨ad239, e239, hx239_0⟩ := Kd.at_int (Kd.R_reads' HO_17.out).2.2 ((rd_T37 l0_2 x19_2).f1) p239 q239
                                                    cases e239
                                                    replace p239 := eq_true p239
                                                    replace q239 := eq_true q239
                                                    have p112 : 0 ≤ (((rd_T37 l0_2 x19_2).f1) : Int) := of_decide_eq_true (by first | (with_reducible assumption) | assumption)
                                                    have q112 : (((rd_T37 l0_2 x19_2).f1) : Int) < ((x17_2.length : Int) : Int) := of_decide_eq_true (by first | (with_reducible assumption) | assumption)
                                                    obtain ⟨go112, co112, eo112, gb112, gl112, cl112, HG112⟩ := Kd.R_form HO_17.out (by omega)
                                                    (first | cases eo112 | (injection eo112 with ea_ en_ ec_; (first | subst ea_ | (injection ea_ with ea_; subst ea_)); subst ec_; clear en_))
                                                    have GB112 := Aside0.mk gb112
                                                    have GG112 := Aside0.mk HG112
                                                    clear gb112 gl112 HG112
                                                    (first | simp only [add_plain] at hx239_0 | skip)
                                                    obtain ⟨hx112_0, hf112_0⟩ := Kd.R_celln 0 HO_17.out (((rd_T37 l0_2 x19_2).f1) : Int) p112 q112
                                                    replace p112 := eq_true p112
                                                    replace q112 := eq_true q112
                                                    have HP116 := Kd.R_putg HO_17.out (((rd_T37 l0_2 x19_2).f1) : Int) 2
                                                    go_wp2_with (first | ((with_reducible refine gate_store (t := 3) (p := 192) rfl ?_); (try (rw [drewN_self wr]; generalize hq_ : World.drewN wr _ = wr; have n0_ := Aside0.mk (Kd.R_at hq_ HO_11.out); have n1_ := Aside0.mk (Kd.R_at hq_ HO_13.out); have n2_ := Aside0.mk (Kd.R_at hq_ HO_17.out); have n3_ := Aside0.mk (blk_at hq_ BK197.out); have n4_ := Aside0.mk (blk_at hq_ BK229.out); have n5_ := Aside0.mk (below_at hq_ HB.out); clear hq_ HO_11 HO_13 HO_17 BK197 BK229 HB; have HO_11 := n0_; have HO_13 := n1_; have HO_17 := n2_; have BK197 := n3_; have BK229 := n4_; have HB := n5_; clear n0_ n1_ n2_ n3_ n4_ n5_; (try (have HP116 := Kd.R_putg HO_17.out (((rd_T37 l0_2 x19_2).f1) : Int) 2)))); refine store_event (t := 3) (p := 192) (v := ?vo_w117) (w1 := (wr.setCell ⟨go112, (((rd_T37 l0_2 x19_2).f1) : Int).toNat, none⟩ (.int .i64 2))) ?hg ?ho ?hn ?hr ?_; (case ho => rfl); (case hg => rfl); (case hn => rfl); (case hr => first | (go_simp; done) | (go_simp; rfl)); intro w117 hw; have hg : wr.grownBy w117 (some go112) := (by rw [hw]; exact HP116.2); have hp_ : Kd.R (Kd.int .i64) 3 w117 w.heap.size (fun _ => True) (.slice (some ⟨go112, 0, none⟩) x17_2.length co115) y240 := (by rw [hw, Ny240.out]; exact HP116.1); clear HP116; have n0_ := Aside0.mk (Kd.R_over' (v := (.slice (some ⟨go112, 0, none⟩) x17_2.length co115)) (by (with_reducible repeat (first | apply Kd.R_alloc | apply Kd.R_drewN | apply Kd.R_drew)); exact HO_11.out) (Kd.R_typed HO_17.out) (by decide) hg); have n1_ := Aside0.mk (Kd.R_over' (v := (.slice (some ⟨go112, 0, none⟩) x17_2.length co115)) (by (with_reducible repeat (first | apply Kd.R_alloc | apply Kd.R_drewN | apply Kd.R_drew)); exact HO_13.out) (Kd.R_typed HO_17.out) (by decide) hg); have n2_ := Aside0.mk (hp_); have n3_ := Aside0.mk (blk_grown (g := gb197) (o := .cells #[.int .i64 a0_0, .slice A0_1 l0_1.length c0_1, .slice (some ad228) l0_2.length c0_2, .slice A0_3 l0_3.length c0_3] 25 (0, 0)) (by (with_reducible repeat (first | refine blk_drewN ?_ _ | refine blk_drew ?_ | refine blk_alloc ?_ _)); exact BK197.out) hg (Kd.R_ne HO_17.out BK197.out (by decide))); have n4_ := Aside0.mk (blk_grown (g := gb229) (o := .cells #[.int .i64 ((rd_T37 l0_2 x19_2).f0), .int .i64 ((rd_T37 l0_2 x19_2).f1), .slice A228_2 ((rd_T37 l0_2 x19_2).f2).length c228_2] 37 (0, 0)) (by (with_reducible repeat (first | refine blk_drewN ?_ _ | refine blk_drew ?_ | refine blk_alloc ?_ _)); exact BK229.out) hg (Kd.R_ne HO_17.out BK229.out (by decide))); have n5_ := Aside0.mk ((by rw [hw]; exact below_set (HB.out) GB112.out : Below w.heap.size w w117)); clear HO_11; clear HO_13; clear HO_17; clear BK197; clear BK229; clear HB; have HO_11 := n0_; have HO_13 := n1_; have HO_17 := n2_; have BK197 := n3_; have BK229 := n4_; have HB := n5_; clear n0_ n1_ n2_ n3_ n4_ n5_; clear hg hw hp_))
                                                    go_roundg k3
                                                    case measure => have := HK1.out; have := HK2.out; have := HK3.out; omega
                                                    case rel => exact ⟨(y240), (wrap64 (x19_2 + 1)), (by first | rfl | (simp; done) | (simp [*]; done)), H', ⟨by have := HK1.out; have := HK2.out; have := HK3.out; omega⟩, ⟨by (with_reducible repeat (first | apply Kd.R_alloc | apply Kd.R_drewN | apply Kd.R_drew)); exact HO_11.out⟩, ⟨by (with_reducible repeat (first | apply Kd.R_alloc | apply Kd.R_drewN | apply Kd.R_drew)); exact HO_13.out⟩, ⟨by (with_reducible repeat (first | apply Kd.R_alloc | apply Kd.R_drewN | apply Kd.R_drew)); exact HO_17.out⟩, ⟨by (with_reducible repeat (first | refine blk_drewN ?_ _ | refine blk_drew ?_ | refine blk_alloc ?_ _)); exact BK197.out⟩, ⟨by repeat (first | (with_reducible first | exact HB.out | apply below_alloc | apply pw_below_drewN | apply below_drew1 | refine below_set ?_ GE197.out | refine below_set ?_ GE229.out) | exact HB.out)⟩⟩
                                                  · rw [if_neg c111] at H
                                                    have c111b0 : ((rd x17_2 ((rd_T37 l0_2 x19_2).f1)) == 0) = false := beq_eq_false_iff_ne.mpr c111
                                                    have c111b1 : ((rd x17_2 ((rd_T37 l0_2 x19_2).f1)) != 0) = true := bne_iff_ne.mpr c111
                                                    have H' := Aside0.mk H
                                                    clear H
                                                    have hnb118 := NB229_197.out
                                                    have hnc118 := NB197_229.out
                                                    have hcz119_0 : wr.cell? ⟨gb229, 0, none⟩ = some (.int .i64 ((rd_T37 l0_2 x19_2).f0)) := (blk_cell BK229.out 0).trans rfl
                                                    have hcz119_1 : wr.cell? ⟨gb229, 1, none⟩ = some (.int .i64 ((rd_T37 l0_2 x19_2).f1)) := (blk_cell BK229.out 1).trans rfl
                                                    have hcz119_2 : wr.cell? ⟨gb229, 2, none⟩ = some (.slice A228_2 ((rd_T37 l0_2 x19_2).f2).length c228_2) := (blk_cell BK229.out 2).trans rfl
                                                    have hfz119_0 := blk_frozen BK229.out 0
                                                    have hfz119_1 := blk_frozen BK229.out 1
                                                    have hfz119_2 := blk_frozen BK229.out 2
                                                    obtain ⟨Ao120, co120, eo120⟩ := Kd.R_slice HO_17.out
                                                    subst eo120
                                                    have p239 : 0 ≤ (((rd_T37 l0_2 x19_2).f1) : Int) := of_decide_eq_true (by first | (with_reducible assumption) | assumption)
                                                    have q239 : ((rd_T37 l0_2 x19_2).f1) < (x17_2.length : Int) := of_decide_eq_true (by first | (with_reducible assumption) | assumption)
                                                    obtain ⟨ad239, e239, hx239_0⟩ := Kd.at_int (Kd.R_reads' HO_17.out).2.2 ((rd_T37 l0_2 x19_2).f1) p239 q239
                                                    cases e239
                                                    replace p239 := eq_true p239
                                                    replace q239 := eq_true q239
                                                    go_wp2
                                                    repeat (go_quiet (fail); try go_wp2)
                                                    go_roundg k3
                                                    case measure => have := HK1.out; have := HK2.out; have := HK3.out; omega
                                                    case rel => exact ⟨(x17_2), (wrap64 (x19_2 + 1)), (by first | rfl | (simp; done) | (simp [*]; done)), H', ⟨by have := HK1.out; have := HK2.out; have := HK3.out; omega⟩, ⟨by (with_reducible repeat (first | apply Kd.R_alloc | apply Kd.R_drewN | apply Kd.R_drew)); exact HO_11.out⟩, ⟨by (with_reducible repeat (first | apply Kd.R_alloc | apply Kd.R_drewN | apply Kd.R_drew)); exact HO_13.out⟩, ⟨by (with_reducible repeat (first | apply Kd.R_alloc | apply Kd.R_drewN | apply Kd.R_drew)); exact HO_17.out⟩, ⟨by (with_reducible repeat (first | refine blk_drewN ?_ _ | refine blk_drew ?_ | refine blk_alloc ?_ _)); exact BK197.out⟩, ⟨by repeat (first | (with_reducible first | exact HB.out | apply below_alloc | apply pw_below_drewN | apply below_drew1 | refine below_set ?_ GE197.out | refine below_set ?_ GE229.out) | exact HB.out)⟩⟩
                                                · rw [if_neg c110] at H
                                                  exact absurd H (by simp)
                                              · rw [if_neg c109] at H
                                                exact absurd H (by simp)
                                  · rw [if_neg c55] at H
                                    have c55b0 : (((rd_T37 l0_2 x19_2).f0) == 1) = false := beq_eq_false_iff_ne.mpr c55
                                    have c55b1 : (((rd_T37 l0_2 x19_2).f0) != 1) = true := bne_iff_ne.mpr c55
                                    have H' := Aside0.mk H
                                    clear H
                                    have hcz121_0 : wr.cell? ⟨gb197, 0, none⟩ = some (.int .i64 a0_0) := (blk_cell BK197.out 0).trans rfl
                                    have hcz121_1 : wr.cell? ⟨gb197, 1, none⟩ = some (.slice A0_1 l0_1.length c0_1) := (blk_cell BK197.out 1).trans rfl
                                    have hcz121_2 : wr.cell? ⟨gb197, 2, none⟩ = some (.slice A0_2 l0_2.length c0_2) := (blk_cell BK197.out 2).trans rfl
                                    have hcz121_3 : wr.cell? ⟨gb197, 3, none⟩ = some (.slice A0_3 l0_3.length c0_3) := (blk_cell BK197.out 3).trans rfl
                                    have hfz121_0 := blk_frozen BK197.out 0
                                    have hfz121_1 := blk_frozen BK197.out 1
                                    have hfz121_2 := blk_frozen BK197.out 2
                                    have hfz121_3 := blk_frozen BK197.out 3
                                    have p228 : 0 ≤ (x19_2 : Int) := of_decide_eq_true (by first | (with_reducible assumption) | assumption)
                                    have q228 : x19_2 < (l0_2.length : Int) := of_decide_eq_true (by first | (with_reducible assumption) | assumption)
                                    obtain ⟨ad228, A228_2, c228_2, e228, hx228_0, hx228_1, hx228_2, hl228_2, hi228_2⟩ := at_T37 HR0_2.out x19_2 p228 q228
                                    cases e228
                                    replace hx228_0 := (HB.out.cell (World.block_lt_of_cell? w _ hx228_0)).trans hx228_0
                                    replace hx228_1 := (HB.out.cell (World.block_lt_of_cell? w _ hx228_1)).trans hx228_1
                                    replace hx228_2 := (HB.out.cell (World.block_lt_of_cell? w _ hx228_2)).trans hx228_2
                                    have HR228_2 := Aside0.mk hi228_2
                                    have HC228_2 := Aside0.mk hl228_2
                                    clear hi228_2 hl228_2
                                    replace p228 := eq_true p228
                                    replace q228 := eq_true q228
                                    go_wp2_with (first | ((with_reducible refine gate_dst (N := 20) rfl ?_); (try (refine gate_guard (by rfl) ?_; dsimp only)); refine box_event ?hg (N := 20) ?hd (cs := #[.int .i64 0, .int .i64 0, .slice none 0 0]) (t := 37) ?hr ?_; (case hd => rfl); (case hg => rfl); (case hr => first | (go_simp; done) | (go_simp; rfl)); intro gb229 hg w122 hbox hb; have n0_ := Aside0.mk (Kd.R_below (by (with_reducible repeat (first | apply Kd.R_alloc | apply Kd.R_drewN | apply Kd.R_drew)); exact HO_11.out) hb); have n1_ := Aside0.mk (Kd.R_below (by (with_reducible repeat (first | apply Kd.R_alloc | apply Kd.R_drewN | apply Kd.R_drew)); exact HO_13.out) hb); have n2_ := Aside0.mk (Kd.R_below (by (with_reducible repeat (first | apply Kd.R_alloc | apply Kd.R_drewN | apply Kd.R_drew)); exact HO_17.out) hb); have n3_ := Aside0.mk (blk_below (g := gb197) (o := .cells #[.int .i64 a0_0, .slice A0_1 l0_1.length c0_1, .slice (some ad228) l0_2.length c0_2, .slice A0_3 l0_3.length c0_3] 25 (0, 0)) (by (with_reducible repeat (first | refine blk_drewN ?_ _ | refine blk_drew ?_ | refine blk_alloc ?_ _)); exact BK197.out) hb); have n4_ := Aside0.mk (below_step (by repeat (first | (with_reducible first | exact HB.out | apply below_alloc | apply pw_below_drewN | apply below_drew1 | refine below_set ?_ GE197.out) | exact HB.out)) hb); have n5_ := Aside0.mk (hbox); have n6_ := Aside0.mk ((by rw [hg]; exact (below_size (by repeat (first | (with_reducible first | exact HB.out | apply below_alloc | apply pw_below_drewN | apply below_drew1 | refine below_set ?_ GE197.out) | exact HB.out))) : w.heap.size ≤ gb229)); have n7_ := Aside0.mk ((by rw [hg]; exact (below_size (by repeat (first | (with_reducible first | exact HB.out | apply below_alloc | apply pw_below_drewN | apply below_drew1 | refine below_set ?_ GE197.out) | exact HB.out))) : w.heap.size ≤ gb229)); have n8_ := Aside0.mk ((by rw [hg]; exact Nat.ne_of_lt (blk_lt (g := gb197) (o := .cells #[.int .i64 a0_0, .slice A0_1 l0_1.length c0_1, .slice (some ad228) l0_2.length c0_2, .slice A0_3 l0_3.length c0_3] 25 (0, 0)) (by (with_reducible repeat (first | refine blk_drewN ?_ _ | refine blk_drew ?_ | refine blk_alloc ?_ _)); exact BK197.out)) : gb197 ≠ gb229)); have n9_ := Aside0.mk ((by rw [hg]; exact Nat.ne_of_gt (blk_lt (g := gb197) (o := .cells #[.int .i64 a0_0, .slice A0_1 l0_1.length c0_1, .slice (some ad228) l0_2.length c0_2, .slice A0_3 l0_3.length c0_3] 25 (0, 0)) (by (with_reducible repeat (first | refine blk_drewN ?_ _ | refine blk_drew ?_ | refine blk_alloc ?_ _)); exact BK197.out)) : gb229 ≠ gb197)); clear HO_11; clear HO_13; clear HO_17; clear BK197; clear HB; have HO_11 := n0_; have HO_13 := n1_; have HO_17 := n2_; have BK197 := n3_; have HB := n4_; have BK229 := n5_; have GW229 := n6_; have GE229 := n7_; have NB197_229 := n8_; have NB229_197 := n9_; clear n0_ n1_ n2_ n3_ n4_ n5_ n6_ n7_ n8_ n9_; clear hb hbox hg; have hnb123 := NB229_197.out; have hnc123 := NB197_229.out; have hcz124_0 : w122.cell? ⟨gb229, 0, none⟩ = some (.int .i64 0) := (blk_cell BK229.out 0).trans rfl; have hcz124_1 : w122.cell? ⟨gb229, 1, none⟩ = some (.int .i64 0) := (blk_cell BK229.out 1).trans rfl; have hcz124_2 : w122.cell? ⟨gb229, 2, none⟩ = some (.slice none 0 0) := (blk_cell BK229.out 2).trans rfl; have hfz124_0 := blk_frozen BK229.out 0; have hfz124_1 := blk_frozen BK229.out 1; have hfz124_2 := blk_frozen BK229.out 2))
                                    go_roundg k2
                                    case measure => have := HK1.out; have := HK2.out; omega
                                    case rel => exact ⟨(x17_2), (wrap64 (x19_2 + 1)), (by first | rfl | (simp; done) | (simp [*]; done)), H', ⟨by have := HK1.out; have := HK2.out; omega⟩, ⟨by (with_reducible repeat (first | apply Kd.R_alloc | apply Kd.R_drewN | apply Kd.R_drew)); exact Kd.R_mono (Kd.R_far (p := ⟨gb229, 2, none⟩) (Kd.R_far (p := ⟨gb229, 1, none⟩) (Kd.R_far (p := ⟨gb229, 0, none⟩) (Kd.R_types HO_11.out BK229.out (by decide)) (fun _ hk => hk.2) (.int .i64 ((rd_T37 l0_2 x19_2).f0))) (fun _ hk => hk.2) (.int .i64 ((rd_T37 l0_2 x19_2).f1))) (fun _ hk => hk.2) (.slice A228_2 ((rd_T37 l0_2 x19_2).f2).length c228_2)) (fun _ hk => hk.1)⟩, ⟨by (with_reducible repeat (first | apply Kd.R_alloc | apply Kd.R_drewN | apply Kd.R_drew)); exact Kd.R_mono (Kd.R_far (p := ⟨gb229, 2, none⟩) (Kd.R_far (p := ⟨gb229, 1, none⟩) (Kd.R_far (p := ⟨gb229, 0, none⟩) (Kd.R_types HO_13.out BK229.out (by decide)) (fun _ hk => hk.2) (.int .i64 ((rd_T37 l0_2 x19_2).f0))) (fun _ hk => hk.2) (.int .i64 ((rd_T37 l0_2 x19_2).f1))) (fun _ hk => hk.2) (.slice A228_2 ((rd_T37 l0_2 x19_2).f2).length c228_2)) (fun _ hk => hk.1)⟩, ⟨by (with_reducible repeat (first | apply Kd.R_alloc | apply Kd.R_drewN | apply Kd.R_drew)); exact Kd.R_mono (Kd.R_far (p := ⟨gb229, 2, none⟩) (Kd.R_far (p := ⟨gb229, 1, none⟩) (Kd.R_far (p := ⟨gb229, 0, none⟩) (Kd.R_types HO_17.out BK229.out (by decide)) (fun _ hk => hk.2) (.int .i64 ((rd_T37 l0_2 x19_2).f0))) (fun _ hk => hk.2) (.int .i64 ((rd_T37 l0_2 x19_2).f1))) (fun _ hk => hk.2) (.slice A228_2 ((rd_T37 l0_2 x19_2).f2).length c228_2)) (fun _ hk => trivial)⟩, ⟨by (with_reducible repeat (first | refine blk_drewN ?_ _ | refine blk_drew ?_ | refine blk_alloc ?_ _)); refine blk_far ?_ NB197_229.out _; (with_reducible repeat (first | refine blk_drewN ?_ _ | refine blk_drew ?_ | refine blk_alloc ?_ _)); refine blk_far ?_ NB197_229.out _; (with_reducible repeat (first | refine blk_drewN ?_ _ | refine blk_drew ?_ | refine blk_alloc ?_ _)); refine blk_far ?_ NB197_229.out _; (with_reducible repeat (first | refine blk_drewN ?_ _ | refine blk_drew ?_ | refine blk_alloc ?_ _)); exact BK197.out⟩, ⟨by repeat (first | (with_reducible first | exact HB.out | apply below_alloc | apply pw_below_drewN | apply below_drew1 | refine below_set ?_ GE197.out | refine below_set ?_ GE229.out) | exact HB.out)⟩⟩
                                · rw [if_neg c54] at H
                                  exact absurd H (by simp)
                              · rw [if_neg c53] at H
                                have c53b0 : decide (x19_2 < (l0_2.length : Int)) = false := decide_eq_false c53
                                clear c53
                                have H' := Aside0.mk H
                                clear H
                                have hcz125_0 : wr.cell? ⟨gb197, 0, none⟩ = some (.int .i64 a0_0) := (blk_cell BK197.out 0).trans rfl
                                have hcz125_1 : wr.cell? ⟨gb197, 1, none⟩ = some (.slice A0_1 l0_1.length c0_1) := (blk_cell BK197.out 1).trans rfl
                                have hcz125_2 : wr.cell? ⟨gb197, 2, none⟩ = some (.slice A0_2 l0_2.length c0_2) := (blk_cell BK197.out 2).trans rfl
                                have hcz125_3 : wr.cell? ⟨gb197, 3, none⟩ = some (.slice A0_3 l0_3.length c0_3) := (blk_cell BK197.out 3).trans rfl
                                have hfz125_0 := blk_frozen BK197.out 0
                                have hfz125_1 := blk_frozen BK197.out 1
                                have hfz125_2 := blk_frozen BK197.out 2
                                have hfz125_3 := blk_frozen BK197.out 3
                                go_wp2
                                repeat (go_quiet (fail); try go_wp2)
                                go_loopg [24] k2 (fun kq v24 w' => ∃ (x24_3 : Int), v24 = .int .i64 x24_3 ∧ Aside0 (lexpriorlaw14_StrictConditions.l3 kq t211 t215 x17_2 x24_3 a0_0 l0_1 l0_2 l0_3 = some r) ∧ Aside0 (kq ≤ k2) ∧ Aside0 (Kd.R Kd.bool 4 w' w.heap.size (fun k_ => some k_ ≠ (v217 : Value).ownBlock) v213 t211) ∧ Aside0 (Kd.R Kd.bool 4 w' w.heap.size (fun k_ => some k_ ≠ (v213 : Value).ownBlock) v217 t215) ∧ Aside0 (Kd.R (Kd.int .i64) 3 w' w.heap.size (fun _ => True) v224 x17_2) ∧ Aside0 (w'.heap[gb197]? = some (.cells #[.int .i64 a0_0, (.slice A0_1 l0_1.length c0_1), (.slice A0_2 l0_2.length c0_2), (.slice A0_3 l0_3.length c0_3)] 25 (0, 0))) ∧ Aside0 (Below w.heap.size w w'))
                                case atStart => exact ⟨(0), (by first | rfl | (simp; done) | (simp [*]; done)), H', ⟨Nat.le_refl _⟩, ⟨by (with_reducible repeat (first | apply Kd.R_alloc | apply Kd.R_drewN | apply Kd.R_drew)); exact HO_11.out⟩, ⟨by (with_reducible repeat (first | apply Kd.R_alloc | apply Kd.R_drewN | apply Kd.R_drew)); exact HO_13.out⟩, ⟨by (with_reducible repeat (first | apply Kd.R_alloc | apply Kd.R_drewN | apply Kd.R_drew)); exact HO_17.out⟩, ⟨by (with_reducible repeat (first | refine blk_drewN ?_ _ | refine blk_drew ?_ | refine blk_alloc ?_ _)); exact BK197.out⟩, ⟨by repeat (first | (with_reducible first | exact HB.out | apply below_alloc | apply pw_below_drewN | apply below_drew1 | refine below_set ?_ GE197.out) | exact HB.out)⟩⟩
                                case round =>
                                  clear H'
                                  try clear c1
                                  try clear p1
                                  try clear q1
                                  try clear hx1
                                  try clear c2
                                  try clear p2
                                  try clear q2
                                  try clear hx2
                                  try clear p4
                                  try clear q4
                                  try clear hx4
                                  try clear c5
                                  try clear c6
                                  try clear p6
                                  try clear c7
                                  try clear c8
                                  try clear p8
                                  try clear q8
                                  try clear hx8
                                  try clear hf8
                                  try clear c9
                                  try clear p9
                                  try clear q9
                                  try clear hx9
                                  try clear hf9
                                  try clear c10
                                  try clear c11
                                  try clear p11
                                  try clear q11
                                  try clear hx11
                                  try clear hf11
                                  try clear c12
                                  try clear c22
                                  try clear p22
                                  try clear q22
                                  try clear hx22
                                  try clear p23
                                  try clear q23
                                  try clear hx23
                                  try clear q42
                                  try clear p45
                                  try clear q45
                                  try clear hx45
                                  try clear c53
                                  try clear c53b0
                                  try clear c54
                                  try clear c55
                                  try clear c55b0
                                  try clear c55b1
                                  try clear c60
                                  try clear c60b0
                                  try clear c61
                                  try clear c62
                                  try clear c62b0
                                  try clear c63
                                  try clear c63b0
                                  try clear c64
                                  try clear c64b0
                                  try clear p64
                                  try clear c65
                                  try clear c66
                                  try clear c69
                                  try clear c69b0
                                  try clear c70
                                  try clear c74
                                  try clear c75
                                  try clear c77
                                  try clear c77b0
                                  try clear c78
                                  try clear c78b0
                                  try clear c79
                                  try clear c79b0
                                  try clear c80
                                  try clear c83
                                  try clear c84
                                  try clear c84b0
                                  try clear c85
                                  try clear c85b0
                                  try clear p86
                                  try clear q86
                                  try clear hx86
                                  try clear hf86
                                  try clear c87
                                  try clear c88
                                  try clear c92
                                  try clear c92b0
                                  try clear c92b1
                                  try clear p93
                                  try clear q93
                                  try clear hx93
                                  try clear hf93
                                  try clear c94
                                  try clear c101
                                  try clear c106
                                  try clear c107
                                  try clear c109
                                  try clear c109b0
                                  try clear c110
                                  try clear c110b0
                                  try clear c111
                                  try clear c111b0
                                  try clear c111b1
                                  try clear p112
                                  try clear q112
                                  try clear hx112
                                  try clear hf112
                                  try clear c113
                                  try clear c118
                                  try clear c123
                                  try clear hcz102_0
                                  try clear hcz102_1
                                  try clear hcz102_2
                                  try clear hcz105_0
                                  try clear hcz105_1
                                  try clear hcz105_2
                                  try clear hcz108_0
                                  try clear hcz108_1
                                  try clear hcz108_2
                                  try clear hcz114_0
                                  try clear hcz114_1
                                  try clear hcz114_2
                                  try clear hcz119_0
                                  try clear hcz119_1
                                  try clear hcz119_2
                                  try clear hcz121_0
                                  try clear hcz121_1
                                  try clear hcz121_2
                                  try clear hcz121_3
                                  try clear hcz124_0
                                  try clear hcz124_1
                                  try clear hcz124_2
                                  try clear hcz125_0
                                  try clear hcz125_1
                                  try clear hcz125_2
                                  try clear hcz125_3
                                  try clear hcz27_3
                                  try clear hcz30_0
                                  try clear hcz30_1
                                  try clear hcz30_2
                                  try clear hcz30_3
                                  try clear hcz34_0
                                  try clear hcz34_1
                                  try clear hcz34_2
                                  try clear hcz34_3
                                  try clear hcz36_0
                                  try clear hcz36_1
                                  try clear hcz36_2
                                  try clear hcz36_3
                                  try clear hcz46_0
                                  try clear hcz46_1
                                  try clear hcz46_2
                                  try clear hcz46_3
                                  try clear hcz50_0
                                  try clear hcz50_1
                                  try clear hcz50_2
                                  try clear hcz50_3
                                  try clear hcz52_0
                                  try clear hcz52_1
                                  try clear hcz52_2
                                  try clear hcz52_3
                                  try clear hcz56_0
                                  try clear hcz56_1
                                  try clear hcz56_2
                                  try clear hcz56_3
                                  try clear hcz59_0
                                  try clear hcz59_1
                                  try clear hcz59_2
                                  try clear hcz67_0
                                  try clear hcz67_1
                                  try clear hcz67_2
                                  try clear hcz71_0
                                  try clear hcz71_1
                                  try clear hcz71_2
                                  try clear hcz76_0
                                  try clear hcz76_1
                                  try clear hcz76_2
                                  try clear hcz81_0
                                  try clear hcz81_1
                                  try clear hcz81_2
                                  try clear hcz89_0
                                  try clear hcz89_1
                                  try clear hcz89_2
                                  try clear hcz95_0
                                  try clear hcz95_1
                                  try clear hcz95_2
                                  try clear hcz98_0
                                  try clear hcz98_1
                                  try clear hcz98_2
                                  try clear hfz102_0
                                  try clear hfz102_1
                                  try clear hfz102_2
                                  try clear hfz105_0
                                  try clear hfz105_1
                                  try clear hfz105_2
                                  try clear hfz108_0
                                  try clear hfz108_1
                                  try clear hfz108_2
                                  try clear hfz114_0
                                  try clear hfz114_1
                                  try clear hfz114_2
                                  try clear hfz119_0
                                  try clear hfz119_1
                                  try clear hfz119_2
                                  try clear hfz121_0
                                  try clear hfz121_1
                                  try clear hfz121_2
                                  try clear hfz121_3
                                  try clear hfz124_0
                                  try clear hfz124_1
                                  try clear hfz124_2
                                  try clear hfz125_0
                                  try clear hfz125_1
                                  try clear hfz125_2
                                  try clear hfz125_3
                                  try clear hfz21_0
                                  try clear hfz21_1
                                  try clear hfz21_2
                                  try clear hfz21_3
                                  try clear hfz23_0
                                  try clear hfz23_1
                                  try clear hfz23_2
                                  try clear hfz23_3
                                  try clear hfz25_0
                                  try clear hfz25_1
                                  try clear hfz25_2
                                  try clear hfz25_3
                                  try clear hfz27_0
                                  try clear hfz27_1
                                  try clear hfz27_2
                                  try clear hfz27_3
                                  try clear hfz30_0
                                  try clear hfz30_1
                                  try clear hfz30_2
                                  try clear hfz30_3
                                  try clear hfz34_0
                                  try clear hfz34_1
                                  try clear hfz34_2
                                  try clear hfz34_3
                                  try clear hfz36_0
                                  try clear hfz36_1
                                  try clear hfz36_2
                                  try clear hfz36_3
                                  try clear hfz46_0
                                  try clear hfz46_1
                                  try clear hfz46_2
                                  try clear hfz46_3
                                  try clear hfz50_0
                                  try clear hfz50_1
                                  try clear hfz50_2
                                  try clear hfz50_3
                                  try clear hfz52_0
                                  try clear hfz52_1
                                  try clear hfz52_2
                                  try clear hfz52_3
                                  try clear hfz56_0
                                  try clear hfz56_1
                                  try clear hfz56_2
                                  try clear hfz56_3
                                  try clear hfz59_0
                                  try clear hfz59_1
                                  try clear hfz59_2
                                  try clear hfz67_0
                                  try clear hfz67_1
                                  try clear hfz67_2
                                  try clear hfz71_0
                                  try clear hfz71_1
                                  try clear hfz71_2
                                  try clear hfz76_0
                                  try clear hfz76_1
                                  try clear hfz76_2
                                  try clear hfz81_0
                                  try clear hfz81_1
                                  try clear hfz81_2
                                  try clear hfz89_0
                                  try clear hfz89_1
                                  try clear hfz89_2
                                  try clear hfz95_0
                                  try clear hfz95_1
                                  try clear hfz95_2
                                  try clear hfz98_0
                                  try clear hfz98_1
                                  try clear hfz98_2
                                  try clear hx112_0
                                  try clear hx226_0
                                  try clear hx228_0
                                  try clear hx228_1
                                  try clear hx228_2
                                  try clear hx230_0
                                  try clear hx231_0
                                  try clear hx232_0
                                  try clear hx233_0
                                  try clear hx234_0
                                  try clear hx235_0
                                  try clear hx237_0
                                  try clear hx239_0
                                  try clear hx45_0
                                  try clear hx86_0
                                  try clear hx93_0
                                  try clear p112
                                  try clear p2
                                  try clear p22
                                  try clear p226
                                  try clear p228
                                  try clear p230
                                  try clear p231
                                  try clear p232
                                  try clear p233
                                  try clear p234
                                  try clear p235
                                  try clear p237
                                  try clear p239
                                  try clear p4
                                  try clear p45
                                  try clear p6
                                  try clear p86
                                  try clear p93
                                  try clear q112
                                  try clear q2
                                  try clear q22
                                  try clear q226
                                  try clear q228
                                  try clear q230
                                  try clear q231
                                  try clear q232
                                  try clear q233
                                  try clear q234
                                  try clear q235
                                  try clear q237
                                  try clear q239
                                  try clear q4
                                  try clear q42
                                  try clear q45
                                  try clear q86
                                  try clear q93
                                  obtain ⟨x24_3, rfl, HA, HK3, HO_11, HO_13, HO_17, BK197, HB⟩ := hrel
                                  cases gk with
                                  | zero => exact absurd HA.out (by simp [lexpriorlaw14_StrictConditions.l3])
                                  | succ k3 =>
                                    have H := HA.out
                                    clear HA
                                    simp only [lexpriorlaw14_StrictConditions.l3] at H
                                    by_cases c126 : x24_3 < a0_0
                                    · rw [if_pos c126] at H
                                      have c126b0 : decide (x24_3 < a0_0) = true := decide_eq_true c126
                                      clear c126
                                      by_cases c127 : 0 ≤ x24_3
                                      · rw [if_pos c127] at H
                                        have c127b0 : decide (0 ≤ x24_3) = true := decide_eq_true c127
                                        clear c127
                                        by_cases c128 : x24_3 < (t211.length : Int)
                                        · rw [if_pos c128] at H
                                          have c128b0 : decide (x24_3 < (t211.length : Int)) = true := decide_eq_true c128
                                          clear c128
                                          obtain ⟨bq129, hbq129⟩ : ∃ b_ : Bool, b_ = (rdOf false t211 x24_3) := ⟨_, rfl⟩
                                          replace H : (if bq129 = true then (if x24_3 < (t215.length : Int) then (if rdOf false t215 x24_3 = true then (none) else (if x24_3 < (x17_2.length : Int) then (if ((bq129) != ((rd x17_2 x24_3) == 1)) = true then (none) else (if ((rdOf false t215 x24_3) != ((rd x17_2 x24_3) == 0)) = true then (none) else (lexpriorlaw14_StrictConditions.l3 k3 t211 t215 x17_2 (wrap64 (x24_3 + 1)) a0_0 l0_1 l0_2 l0_3))) else (none))) else (none)) else (if x24_3 < (x17_2.length : Int) then (if ((bq129) != ((rd x17_2 x24_3) == 1)) = true then (none) else (if x24_3 < (t215.length : Int) then (if ((rdOf false t215 x24_3) != ((rd x17_2 x24_3) == 0)) = true then (none) else (lexpriorlaw14_StrictConditions.l3 k3 t211 t215 x17_2 (wrap64 (x24_3 + 1)) a0_0 l0_1 l0_2 l0_3)) else (none))) else (none))) = some r := by rw [← hbq129] at H; exact H
                                          have Nbq129 := Aside0.mk hbq129
                                          clear hbq129
                                          by_cases c130 : bq129 = true
                                          · subst c130
                                            have H1 : (if x24_3 < (t215.length : Int) then (if rdOf false t215 x24_3 = true then (none) else (if x24_3 < (x17_2.length : Int) then (if ((true) != ((rd x17_2 x24_3) == 1)) = true then (none) else (if ((rdOf false t215 x24_3) != ((rd x17_2 x24_3) == 0)) = true then (none) else (lexpriorlaw14_StrictConditions.l3 k3 t211 t215 x17_2 (wrap64 (x24_3 + 1)) a0_0 l0_1 l0_2 l0_3))) else (none))) else (none)) = some r := by rw [if_pos rfl] at H; exact H
                                            clear H
                                            have H := H1
                                            clear H1
                                            by_cases c131 : x24_3 < (t215.length : Int)
                                            · rw [if_pos c131] at H
                                              have c131b0 : decide (x24_3 < (t215.length : Int)) = true := decide_eq_true c131
                                              clear c131
                                              obtain ⟨bq132, hbq132⟩ : ∃ b_ : Bool, b_ = (rdOf false t215 x24_3) := ⟨_, rfl⟩
                                              replace H : (if bq132 = true then (none) else (if x24_3 < (x17_2.length : Int) then (if ((true) != ((rd x17_2 x24_3) == 1)) = true then (none) else (if ((bq132) != ((rd x17_2 x24_3) == 0)) = true then (none) else (lexpriorlaw14_StrictConditions.l3 k3 t211 t215 x17_2 (wrap64 (x24_3 + 1)) a0_0 l0_1 l0_2 l0_3))) else (none))) = some r := by rw [← hbq132] at H; exact H
                                              have Nbq132 := Aside0.mk hbq132
                                              clear hbq132
                                              by_cases c133 : bq132 = true
                                              · subst c133
                                                have H1 : (none) = some r := by rw [if_pos rfl] at H; exact H
                                                clear H
                                                have H := H1
                                                clear H1
                                                exact absurd H (by simp)
                                              · replace c133 := Bool.eq_false_iff.mpr c133
                                                subst c133
                                                have H1 : (if x24_3 < (x17_2.length : Int) then (if ((true) != ((rd x17_2 x24_3) == 1)) = true then (none) else (if ((false) != ((rd x17_2 x24_3) == 0)) = true then (none) else (lexpriorlaw14_StrictConditions.l3 k3 t211 t215 x17_2 (wrap64 (x24_3 + 1)) a0_0 l0_1 l0_2 l0_3))) else (none)) = some r := by rw [if_neg (show ¬ (false = true) by decide)] at H; exact H
                                                clear H
                                                have H := H1
                                                clear H1
                                                by_cases c134 : x24_3 < (x17_2.length : Int)
                                                · rw [if_pos c134] at H
                                                  have c134b0 : decide (x24_3 < (x17_2.length : Int)) = true := decide_eq_true c134
                                                  clear c134
                                                  by_cases c135 : ((true) != ((rd x17_2 x24_3) == 1)) = true
                                                  · rw [if_pos c135] at H
                                                    exact absurd H (by simp)
                                                  · rw [if_neg c135] at H
                                                    have c135b0 : ((true) != ((rd x17_2 x24_3) == 1)) = false := by simpa using c135
                                                    (try (have c135b1 : decide ((true) = ((rd x17_2 x24_3) == 1)) = true := by simpa using c135))
                                                    (try (have c135b2 : ((true) == ((rd x17_2 x24_3) == 1)) = true := by simpa using c135))
                                                    clear c135
                                                    by_cases c136 : ((false) != ((rd x17_2 x24_3) == 0)) = true
                                                    · rw [if_pos c136] at H
                                                      exact absurd H (by simp)
                                                    · rw [if_neg c136] at H
                                                      have c136b0 : ((false) != ((rd x17_2 x24_3) == 0)) = false := by simpa using c136
                                                      (try (have c136b1 : decide ((false) = ((rd x17_2 x24_3) == 0)) = true := by simpa using c136))
                                                      (try (have c136b2 : ((false) == ((rd x17_2 x24_3) == 0)) = true := by simpa using c136))
                                                      clear c136
                                                      have H' := Aside0.mk H
                                                      clear H
                                                      have hcz137_0 : wr.cell? ⟨gb197, 0, none⟩ = some (.int .i64 a0_0) := (blk_cell BK197.out 0).trans rfl
                                                      have hcz137_1 : wr.cell? ⟨gb197, 1, none⟩ = some (.slice A0_1 l0_1.length c0_1) := (blk_cell BK197.out 1).trans rfl
                                                      have hcz137_2 : wr.cell? ⟨gb197, 2, none⟩ = some (.slice A0_2 l0_2.length c0_2) := (blk_cell BK197.out 2).trans rfl
                                                      have hcz137_3 : wr.cell? ⟨gb197, 3, none⟩ = some (.slice A0_3 l0_3.length c0_3) := (blk_cell BK197.out 3).trans rfl
                                                      have hfz137_0 := blk_frozen BK197.out 0
                                                      have hfz137_1 := blk_frozen BK197.out 1
                                                      have hfz137_2 := blk_frozen BK197.out 2
                                                      have hfz137_3 := blk_frozen BK197.out 3
                                                      obtain ⟨Ao138, co138, eo138⟩ := Kd.R_slice HO_11.out
                                                      subst eo138
                                                      have p241 : 0 ≤ (x24_3 : Int) := of_decide_eq_true (by first | (with_reducible assumption) | assumption)
                                                      have q241 : x24_3 < (t211.length : Int) := of_decide_eq_true (by first | (with_reducible assumption) | assumption)
                                                      obtain ⟨ad241, e241, hx241_0⟩ := Kd.at_bool (Kd.R_reads' HO_11.out).2.2 x24_3 p241 q241
                                                      (try rw [← Nbq129.out] at hx241_0)
                                                      (try rw [← Nbq132.out] at hx241_0)
                                                      cases e241
                                                      replace p241 := eq_true p241
                                                      replace q241 := eq_true q241
                                                      obtain ⟨Ao139, co139, eo139⟩ := Kd.R_slice HO_13.out
                                                      subst eo139
                                                      have p242 : 0 ≤ (x24_3 : Int) := of_decide_eq_true (by first | (with_reducible assumption) | assumption)
                                                      have q242 : x24_3 < (t215.length : Int) := of_decide_eq_true (by first | (with_reducible assumption) | assumption)
                                                      obtain ⟨ad242, e242, hx242_0⟩ := Kd.at_bool (Kd.R_reads' HO_13.out).2.2 x24_3 p242 q242
                                                      (try rw [← Nbq129.out] at hx242_0)
                                                      (try rw [← Nbq132.out] at hx242_0)
                                                      cases e242
                                                      replace p242 := eq_true p242
                                                      replace q242 := eq_true q242
                                                      have p243 : 0 ≤ (x24_3 : Int) := of_decide_eq_true (by first | (with_reducible assumption) | assumption)
                                                      have q243 : x24_3 < (t211.length : Int) := of_decide_eq_true (by first | (with_reducible assumption) | assumption)
                                                      obtain ⟨ad243, e243, hx243_0⟩ := Kd.at_bool (Kd.R_reads' HO_11.out).2.2 x24_3 p243 q243
                                                      (try rw [← Nbq129.out] at hx243_0)
                                                      (try rw [← Nbq132.out] at hx243_0)
                                                      obtain rfl : ad241 = ad243 := (by injection e243)
                                                      replace p243 := eq_true p243
                                                      replace q243 := eq_true q243
                                                      obtain ⟨Ao140, co140, eo140⟩ := Kd.R_slice HO_17.out
                                                      subst eo140
                                                      have p244 : 0 ≤ (x24_3 : Int) := of_decide_eq_true (by first | (with_reducible assumption) | assumption)
                                                      have q244 : x24_3 < (x17_2.length : Int) := of_decide_eq_true (by first | (with_reducible assumption) | assumption)
                                                      obtain ⟨ad244, e244, hx244_0⟩ := Kd.at_int (Kd.R_reads' HO_17.out).2.2 x24_3 p244 q244
                                                      cases e244
                                                      replace p244 := eq_true p244
                                                      replace q244 := eq_true q244
                                                      have p245 : 0 ≤ (x24_3 : Int) := of_decide_eq_true (by first | (with_reducible assumption) | assumption)
                                                      have q245 : x24_3 < (t215.length : Int) := of_decide_eq_true (by first | (with_reducible assumption) | assumption)
                                                      obtain ⟨ad245, e245, hx245_0⟩ := Kd.at_bool (Kd.R_reads' HO_13.out).2.2 x24_3 p245 q245
                                                      (try rw [← Nbq129.out] at hx245_0)
                                                      (try rw [← Nbq132.out] at hx245_0)
                                                      obtain rfl : ad242 = ad245 := (by injection e245)
                                                      replace p245 := eq_true p245
                                                      replace q245 := eq_true q245
                                                      have p246 : 0 ≤ (x24_3 : Int) := of_decide_eq_true (by first | (with_reducible assumption) | assumption)
                                                      have q246 : x24_3 < (x17_2.length : Int) := of_decide_eq_true (by first | (with_reducible assumption) | assumption)
                                                      obtain ⟨ad246, e246, hx246_0⟩ := Kd.at_int (Kd.R_reads' HO_17.out).2.2 x24_3 p246 q246
                                                      obtain rfl : ad244 = ad246 := (by injection e246)
                                                      replace p246 := eq_true p246
                                                      replace q246 := eq_true q246
                                                      go_wp2
                                                      repeat (go_quiet (fail); try go_wp2)
                                                      go_roundg k3
                                                      case measure => have := HK1.out; have := HK2.out; have := HK3.out; omega
                                                      case rel => exact ⟨(wrap64 (x24_3 + 1)), (by first | rfl | (simp; done) | (simp [*]; done)), H', ⟨by have := HK1.out; have := HK2.out; have := HK3.out; omega⟩, ⟨by (with_reducible repeat (first | apply Kd.R_alloc | apply Kd.R_drewN | apply Kd.R_drew)); exact HO_11.out⟩, ⟨by (with_reducible repeat (first | apply Kd.R_alloc | apply Kd.R_drewN | apply Kd.R_drew)); exact HO_13.out⟩, ⟨by (with_reducible repeat (first | apply Kd.R_alloc | apply Kd.R_drewN | apply Kd.R_drew)); exact HO_17.out⟩, ⟨by (with_reducible repeat (first | refine blk_drewN ?_ _ | refine blk_drew ?_ | refine blk_alloc ?_ _)); exact BK197.out⟩, ⟨by repeat (first | (with_reducible first | exact HB.out | apply below_alloc | apply pw_below_drewN | apply below_drew1 | refine below_set ?_ GE197.out) | exact HB.out)⟩⟩
                                                · rw [if_neg c134] at H
                                                  exact absurd H (by simp)
                                            · rw [if_neg c131] at H
                                              exact absurd H (by simp)
                                          · replace c130 := Bool.eq_false_iff.mpr c130
                                            subst c130
                                            have H1 : (if x24_3 < (x17_2.length : Int) then (if ((false) != ((rd x17_2 x24_3) == 1)) = true then (none) else (if x24_3 < (t215.length : Int) then (if ((rdOf false t215 x24_3) != ((rd x17_2 x24_3) == 0)) = true then (none) else (lexpriorlaw14_StrictConditions.l3 k3 t211 t215 x17_2 (wrap64 (x24_3 + 1)) a0_0 l0_1 l0_2 l0_3)) else (none))) else (none)) = some r := by rw [if_neg (show ¬ (false = true) by decide)] at H; exact H
                                            clear H
                                            have H := H1
                                            clear H1
                                            by_cases c141 : x24_3 < (x17_2.length : Int)
                                            · rw [if_pos c141] at H
                                              have c141b0 : decide (x24_3 < (x17_2.length : Int)) = true := decide_eq_true c141
                                              clear c141
                                              by_cases c142 : ((false) != ((rd x17_2 x24_3) == 1)) = true
                                              · rw [if_pos c142] at H
                                                exact absurd H (by simp)
                                              · rw [if_neg c142] at H
                                                have c142b0 : ((false) != ((rd x17_2 x24_3) == 1)) = false := by simpa using c142
                                                (try (have c142b1 : decide ((false) = ((rd x17_2 x24_3) == 1)) = true := by simpa using c142))
                                                (try (have c142b2 : ((false) == ((rd x17_2 x24_3) == 1)) = true := by simpa using c142))
                                                clear c142
                                                by_cases c143 : x24_3 < (t215.length : Int)
                                                · rw [if_pos c143] at H
                                                  have c143b0 : decide (x24_3 < (t215.length : Int)) = true := decide_eq_true c143
                                                  clear c143
                                                  by_cases c144 : ((rdOf false t215 x24_3) != ((rd x17_2 x24_3) == 0)) = true
                                                  · rw [if_pos c144] at H
                                                    exact absurd H (by simp)
                                                  · rw [if_neg c144] at H
                                                    have c144b0 : ((rdOf false t215 x24_3) != ((rd x17_2 x24_3) == 0)) = false := by simpa using c144
                                                    (try (have c144b1 : decide ((rdOf false t215 x24_3) = ((rd x17_2 x24_3) == 0)) = true := by simpa using c144))
                                                    (try (have c144b2 : ((rdOf false t215 x24_3) == ((rd x17_2 x24_3) == 0)) = true := by simpa using c144))
                                                    clear c144
                                                    have H' := Aside0.mk H
                                                    clear H
                                                    have hcz145_0 : wr.cell? ⟨gb197, 0, none⟩ = some (.int .i64 a0_0) := (blk_cell BK197.out 0).trans rfl
                                                    have hcz145_1 : wr.cell? ⟨gb197, 1, none⟩ = some (.slice A0_1 l0_1.length c0_1) := (blk_cell BK197.out 1).trans rfl
                                                    have hcz145_2 : wr.cell? ⟨gb197, 2, none⟩ = some (.slice A0_2 l0_2.length c0_2) := (blk_cell BK197.out 2).trans rfl
                                                    have hcz145_3 : wr.cell? ⟨gb197, 3, none⟩ = some (.slice A0_3 l0_3.length c0_3) := (blk_cell BK197.out 3).trans rfl
                                                    have hfz145_0 := blk_frozen BK197.out 0
                                                    have hfz145_1 := blk_frozen BK197.out 1
                                                    have hfz145_2 := blk_frozen BK197.out 2
                                                    have hfz145_3 := blk_frozen BK197.out 3
                                                    obtain ⟨Ao146, co146, eo146⟩ := Kd.R_slice HO_11.out
                                                    subst eo146
                                                    have p241 : 0 ≤ (x24_3 : Int) := of_decide_eq_true (by first | (with_reducible assumption) | assumption)
                                                    have q241 : x24_3 < (t211.length : Int) := of_decide_eq_true (by first | (with_reducible assumption) | assumption)
                                                    obtain ⟨ad241, e241, hx241_0⟩ := Kd.at_bool (Kd.R_reads' HO_11.out).2.2 x24_3 p241 q241
                                                    (try rw [← Nbq129.out] at hx241_0)
                                                    cases e241
                                                    replace p241 := eq_true p241
                                                    replace q241 := eq_true q241
                                                    have p247 : 0 ≤ (x24_3 : Int) := of_decide_eq_true (by first | (with_reducible assumption) | assumption)
                                                    have q247 : x24_3 < (t211.length : Int) := of_decide_eq_true (by first | (with_reducible assumption) | assumption)
                                                    obtain ⟨ad247, e247, hx247_0⟩ := Kd.at_bool (Kd.R_reads' HO_11.out).2.2 x24_3 p247 q247
                                                    (try rw [← Nbq129.out] at hx247_0)
                                                    obtain rfl : ad241 = ad247 := (by injection e247)
                                                    replace p247 := eq_true p247
                                                    replace q247 := eq_true q247
                                                    obtain ⟨Ao147, co147, eo147⟩ := Kd.R_slice HO_17.out
                                                    subst eo147
                                                    have p248 : 0 ≤ (x24_3 : Int) := of_decide_eq_true (by first | (with_reducible assumption) | assumption)
                                                    have q248 : x24_3 < (x17_2.length : Int) := of_decide_eq_true (by first | (with_reducible assumption) | assumption)
                                                    obtain ⟨ad248, e248, hx248_0⟩ := Kd.at_int (Kd.R_reads' HO_17.out).2.2 x24_3 p248 q248
                                                    cases e248
                                                    replace p248 := eq_true p248
                                                    replace q248 := eq_true q248
                                                    obtain ⟨Ao148, co148, eo148⟩ := Kd.R_slice HO_13.out
                                                    subst eo148
                                                    have p249 : 0 ≤ (x24_3 : Int) := of_decide_eq_true (by first | (with_reducible assumption) | assumption)
                                                    have q249 : x24_3 < (t215.length : Int) := of_decide_eq_true (by first | (with_reducible assumption) | assumption)
                                                    obtain ⟨ad249, e249, hx249_0⟩ := Kd.at_bool (Kd.R_reads' HO_13.out).2.2 x24_3 p249 q249
                                                    (try rw [← Nbq129.out] at hx249_0)
                                                    cases e249
                                                    replace p249 := eq_true p249
                                                    replace q249 := eq_true q249
                                                    have p250 : 0 ≤ (x24_3 : Int) := of_decide_eq_true (by first | (with_reducible assumption) | assumption)
                                                    have q250 : x24_3 < (x17_2.length : Int) := of_decide_eq_true (by first | (with_reducible assumption) | assumption)
                                                    obtain ⟨ad250, e250, hx250_0⟩ := Kd.at_int (Kd.R_reads' HO_17.out).2.2 x24_3 p250 q250
                                                    obtain rfl : ad248 = ad250 := (by injection e250)
                                                    replace p250 := eq_true p250
                                                    replace q250 := eq_true q250
                                                    go_wp2
                                                    repeat (go_quiet (fail); try go_wp2)
                                                    go_roundg k3
                                                    case measure => have := HK1.out; have := HK2.out; have := HK3.out; omega
                                                    case rel => exact ⟨(wrap64 (x24_3 + 1)), (by first | rfl | (simp; done) | (simp [*]; done)), H', ⟨by have := HK1.out; have := HK2.out; have := HK3.out; omega⟩, ⟨by (with_reducible repeat (first | apply Kd.R_alloc | apply Kd.R_drewN | apply Kd.R_drew)); exact HO_11.out⟩, ⟨by (with_reducible repeat (first | apply Kd.R_alloc | apply Kd.R_drewN | apply Kd.R_drew)); exact HO_13.out⟩, ⟨by (with_reducible repeat (first | apply Kd.R_alloc | apply Kd.R_drewN | apply Kd.R_drew)); exact HO_17.out⟩, ⟨by (with_reducible repeat (first | refine blk_drewN ?_ _ | refine blk_drew ?_ | refine blk_alloc ?_ _)); exact BK197.out⟩, ⟨by repeat (first | (with_reducible first | exact HB.out | apply below_alloc | apply pw_below_drewN | apply below_drew1 | refine below_set ?_ GE197.out) | exact HB.out)⟩⟩
                                                · rw [if_neg c143] at H
                                                  exact absurd H (by simp)
                                            · rw [if_neg c141] at H
                                              exact absurd H (by simp)
                                        · rw [if_neg c128] at H
                                          exact absurd H (by simp)
                                      · rw [if_neg c127] at H
                                        exact absurd H (by simp)
                                    · rw [if_neg c126] at H
                                      have c126b0 : decide (x24_3 < a0_0) = false := decide_eq_false c126
                                      clear c126
                                      obtain rfl := Option.some.inj H
                                      have hcz149_0 : wr.cell? ⟨gb197, 0, none⟩ = some (.int .i64 a0_0) := (blk_cell BK197.out 0).trans rfl
                                      have hcz149_1 : wr.cell? ⟨gb197, 1, none⟩ = some (.slice A0_1 l0_1.length c0_1) := (blk_cell BK197.out 1).trans rfl
                                      have hcz149_2 : wr.cell? ⟨gb197, 2, none⟩ = some (.slice A0_2 l0_2.length c0_2) := (blk_cell BK197.out 2).trans rfl
                                      have hcz149_3 : wr.cell? ⟨gb197, 3, none⟩ = some (.slice A0_3 l0_3.length c0_3) := (blk_cell BK197.out 3).trans rfl
                                      have hfz149_0 := blk_frozen BK197.out 0
                                      have hfz149_1 := blk_frozen BK197.out 1
                                      have hfz149_2 := blk_frozen BK197.out 2
                                      have hfz149_3 := blk_frozen BK197.out 3
                                      go_wp2
                                      repeat (go_quiet (fail); try go_wp2)
                                      go_ret
                                      exact ⟨by first | rfl | (simp [errW_none, errW_some] <;> rfl) | (simp [*, errW_none, errW_some] <;> rfl), by repeat (first | (with_reducible first | exact HB.out | apply below_alloc | apply pw_below_drewN | apply below_drew1 | refine below_set ?_ GE197.out) | exact HB.out)⟩
                  · rw [if_neg c18] at H
                    exact absurd H (by simp)
                · rw [if_neg c17] at H
                  exact absurd H (by simp)
              · rw [if_neg c15] at H
                have c15b0 : ((wrap64 ((wrap64 ((t199.length : Int) + (t203.length : Int))) + (t207.length : Int))) == a0_0) = false := beq_eq_false_iff_ne.mpr c15
                have c15b1 : ((wrap64 ((wrap64 ((t199.length : Int) + (t203.length : Int))) + (t207.length : Int))) != a0_0) = true := bne_iff_ne.mpr c15
                obtain rfl := Option.some.inj H
                go_enter Try.func4, Try.ntmps4
                go_wp2_with (first | ((with_reducible refine gate_dst (N := 2) rfl ?_); (try (refine gate_guard (by rfl) ?_; dsimp only)); refine box_event ?hg (N := 2) ?hd (cs := #[.int .i64 a0_0, .slice A0_1 l0_1.length c0_1, .slice A0_2 l0_2.length c0_2, .slice A0_3 l0_3.length c0_3]) (t := 25) ?hr ?_; (case hd => rfl); (case hg => rfl); (case hr => first | (go_simp; done) | (go_simp; rfl)); intro gb197 hg w150 hbox hb; have n0_ := Aside0.mk (below_step (by repeat (first | (with_reducible first | exact HB.out | apply below_alloc | apply pw_below_drewN | apply below_drew1) | exact HB.out)) hb); have n1_ := Aside0.mk (hbox); have n2_ := Aside0.mk ((by rw [hg]; exact (below_size (by repeat (first | (with_reducible first | exact HB.out | apply below_alloc | apply pw_below_drewN | apply below_drew1) | exact HB.out))) : w.heap.size ≤ gb197)); have n3_ := Aside0.mk ((by rw [hg]; exact (below_size (by repeat (first | (with_reducible first | exact HB.out | apply below_alloc | apply pw_below_drewN | apply below_drew1) | exact HB.out))) : w.heap.size ≤ gb197)); clear HB; have HB := n0_; have BK197 := n1_; have GW197 := n2_; have GE197 := n3_; clear n0_ n1_ n2_ n3_; clear hb hbox hg) | (go_at_call 8; (with_reducible refine (lexpriorlaw14_works.calls k  true _ A3.out).mono ?_); rintro e w151 ⟨rfl, hb⟩; have n0_ := Aside0.mk (blk_below (g := gb197) (o := .cells #[.int .i64 a0_0, .slice A0_1 l0_1.length c0_1, .slice A0_2 l0_2.length c0_2, .slice A0_3 l0_3.length c0_3] 25 (0, 0)) (by (with_reducible repeat (first | refine blk_drewN ?_ _ | refine blk_drew ?_ | refine blk_alloc ?_ _)); exact BK197.out) hb); have n1_ := Aside0.mk (below_step (by repeat (first | (with_reducible first | exact HB.out | apply below_alloc | apply pw_below_drewN | apply below_drew1 | refine below_set ?_ GE197.out) | exact HB.out)) hb); clear BK197; clear HB; have BK197 := n0_; have HB := n1_; clear n0_ n1_; (try clear hb); (try clear hb2); (try clear hk); (try clear hi); have hcz152_0 : w151.cell? ⟨gb197, 0, none⟩ = some (.int .i64 a0_0) := (blk_cell BK197.out 0).trans rfl; have hcz152_1 : w151.cell? ⟨gb197, 1, none⟩ = some (.slice A0_1 l0_1.length c0_1) := (blk_cell BK197.out 1).trans rfl; have hcz152_2 : w151.cell? ⟨gb197, 2, none⟩ = some (.slice A0_2 l0_2.length c0_2) := (blk_cell BK197.out 2).trans rfl; have hcz152_3 : w151.cell? ⟨gb197, 3, none⟩ = some (.slice A0_3 l0_3.length c0_3) := (blk_cell BK197.out 3).trans rfl; have hfz152_0 := blk_frozen BK197.out 0; have hfz152_1 := blk_frozen BK197.out 1; have hfz152_2 := blk_frozen BK197.out 2; have hfz152_3 := blk_frozen BK197.out 3) | (go_at_call 9; (with_reducible refine (strict_Plus.calls k a0_0 _ _ l0_1 _ _ l0_2 _ _ l0_3 _ _ l1 t199 t202 _ ?side1 ?side2 ?side3 ?side4 ?side5 ?side6 ?side7 ?side8 A5.out).mono ?_); (case side1 => repeat (first | exact (Kd.C_below HR0_1.out HB.out) | (with_reducible refine Kd.C_alloc ?_ _) | (with_reducible refine Kd.C_drewN ?_ _) | (with_reducible refine Kd.C_drew ?_))); (case side2 => exact HC0_1.out); (case side3 => repeat (first | exact (Kd.C_below HR0_2.out HB.out) | (with_reducible refine Kd.C_alloc ?_ _) | (with_reducible refine Kd.C_drewN ?_ _) | (with_reducible refine Kd.C_drew ?_))); (case side4 => exact HC0_2.out); (case side5 => repeat (first | exact (Kd.C_below HR0_3.out HB.out) | (with_reducible refine Kd.C_alloc ?_ _) | (with_reducible refine Kd.C_drewN ?_ _) | (with_reducible refine Kd.C_drew ?_))); (case side6 => exact HC0_3.out); (case side7 => repeat (first | exact (Kd.C_below HR1.out HB.out) | (with_reducible refine Kd.C_alloc ?_ _) | (with_reducible refine Kd.C_drewN ?_ _) | (with_reducible refine Kd.C_drew ?_))); (case side8 => exact HC1.out); rintro e w153 ⟨v200, rfl, ho0, hb⟩; have n0_ := Aside0.mk (Kd.R_lower ho0 (below_size (by repeat (first | (with_reducible first | exact HB.out | apply below_alloc | apply pw_below_drewN | apply below_drew1 | refine below_set ?_ GE197.out) | exact HB.out)))); have n1_ := Aside0.mk (blk_below (g := gb197) (o := .cells #[.int .i64 a0_0, .slice A0_1 l0_1.length c0_1, .slice A0_2 l0_2.length c0_2, .slice A0_3 l0_3.length c0_3] 25 (0, 0)) (by (with_reducible repeat (first | refine blk_drewN ?_ _ | refine blk_drew ?_ | refine blk_alloc ?_ _)); exact BK197.out) hb); have n2_ := Aside0.mk (below_step (by repeat (first | (with_reducible first | exact HB.out | apply below_alloc | apply pw_below_drewN | apply below_drew1 | refine below_set ?_ GE197.out) | exact HB.out)) hb); clear BK197; clear HB; have HO201 := n0_; have BK197 := n1_; have HB := n2_; clear n0_ n1_ n2_; (try clear hb); (try clear hb2); (try clear hk); (try clear hi); (try clear ho0); have hcz154_0 : w153.cell? ⟨gb197, 0, none⟩ = some (.int .i64 a0_0) := (blk_cell BK197.out 0).trans rfl; have hcz154_1 : w153.cell? ⟨gb197, 1, none⟩ = some (.slice A0_1 l0_1.length c0_1) := (blk_cell BK197.out 1).trans rfl; have hcz154_2 : w153.cell? ⟨gb197, 2, none⟩ = some (.slice A0_2 l0_2.length c0_2) := (blk_cell BK197.out 2).trans rfl; have hcz154_3 : w153.cell? ⟨gb197, 3, none⟩ = some (.slice A0_3 l0_3.length c0_3) := (blk_cell BK197.out 3).trans rfl; have hfz154_0 := blk_frozen BK197.out 0; have hfz154_1 := blk_frozen BK197.out 1; have hfz154_2 := blk_frozen BK197.out 2; have hfz154_3 := blk_frozen BK197.out 3) | (go_at_call 10; (with_reducible refine (strict_Minus.calls k a0_0 _ _ l0_1 _ _ l0_2 _ _ l0_3 _ _ l1 t203 t206 _ ?side1 ?side2 ?side3 ?side4 ?side5 ?side6 ?side7 ?side8 A6.out).mono ?_); (case side1 => repeat (first | exact (Kd.C_below HR0_1.out HB.out) | (with_reducible refine Kd.C_alloc ?_ _) | (with_reducible refine Kd.C_drewN ?_ _) | (with_reducible refine Kd.C_drew ?_))); (case side2 => exact HC0_1.out); (case side3 => repeat (first | exact (Kd.C_below HR0_2.out HB.out) | (with_reducible refine Kd.C_alloc ?_ _) | (with_reducible refine Kd.C_drewN ?_ _) | (with_reducible refine Kd.C_drew ?_))); (case side4 => exact HC0_2.out); (case side5 => repeat (first | exact (Kd.C_below HR0_3.out HB.out) | (with_reducible refine Kd.C_alloc ?_ _) | (with_reducible refine Kd.C_drewN ?_ _) | (with_reducible refine Kd.C_drew ?_))); (case side6 => exact HC0_3.out); (case side7 => repeat (first | exact (Kd.C_below HR1.out HB.out) | (with_reducible refine Kd.C_alloc ?_ _) | (with_reducible refine Kd.C_drewN ?_ _) | (with_reducible refine Kd.C_drew ?_))); (case side8 => exact HC1.out); rintro e w155 ⟨v204, rfl, ho0, hb⟩; have n0_ := Aside0.mk (Kd.R_elder' (by (with_reducible repeat (first | apply Kd.R_alloc | apply Kd.R_drewN | apply Kd.R_drew)); exact HO201.out) (Kd.R_base ho0) hb); have n1_ := Aside0.mk (Kd.R_lower (Kd.R_new' ho0 (Kd.R_lt (by (with_reducible repeat (first | apply Kd.R_alloc | apply Kd.R_drewN | apply Kd.R_drew)); exact HO201.out))) (below_size (by repeat (first | (with_reducible first | exact HB.out | apply below_alloc | apply pw_below_drewN | apply below_drew1 | refine below_set ?_ GE197.out) | exact HB.out)))); have n2_ := Aside0.mk (blk_below (g := gb197) (o := .cells #[.int .i64 a0_0, .slice A0_1 l0_1.length c0_1, .slice A0_2 l0_2.length c0_2, .slice A0_3 l0_3.length c0_3] 25 (0, 0)) (by (with_reducible repeat (first | refine blk_drewN ?_ _ | refine blk_drew ?_ | refine blk_alloc ?_ _)); exact BK197.out) hb); have n3_ := Aside0.mk (below_step (by repeat (first | (with_reducible first | exact HB.out | apply below_alloc | apply pw_below_drewN | apply below_drew1 | refine below_set ?_ GE197.out) | exact HB.out)) hb); clear HO201; clear BK197; clear HB; have HO201 := n0_; have HO205 := n1_; have BK197 := n2_; have HB := n3_; clear n0_ n1_ n2_ n3_; (try clear hb); (try clear hb2); (try clear hk); (try clear hi); (try clear ho0); have hcz156_0 : w155.cell? ⟨gb197, 0, none⟩ = some (.int .i64 a0_0) := (blk_cell BK197.out 0).trans rfl; have hcz156_1 : w155.cell? ⟨gb197, 1, none⟩ = some (.slice A0_1 l0_1.length c0_1) := (blk_cell BK197.out 1).trans rfl; have hcz156_2 : w155.cell? ⟨gb197, 2, none⟩ = some (.slice A0_2 l0_2.length c0_2) := (blk_cell BK197.out 2).trans rfl; have hcz156_3 : w155.cell? ⟨gb197, 3, none⟩ = some (.slice A0_3 l0_3.length c0_3) := (blk_cell BK197.out 3).trans rfl; have hfz156_0 := blk_frozen BK197.out 0; have hfz156_1 := blk_frozen BK197.out 1; have hfz156_2 := blk_frozen BK197.out 2; have hfz156_3 := blk_frozen BK197.out 3) | (go_at_call 12; (with_reducible refine (strict_Neither.calls k a0_0 _ _ l0_1 _ _ l0_2 _ _ l0_3 _ _ l1 t207 t210 _ ?side1 ?side2 ?side3 ?side4 ?side5 ?side6 ?side7 ?side8 A7.out).mono ?_); (case side1 => repeat (first | exact (Kd.C_below HR0_1.out HB.out) | (with_reducible refine Kd.C_alloc ?_ _) | (with_reducible refine Kd.C_drewN ?_ _) | (with_reducible refine Kd.C_drew ?_))); (case side2 => exact HC0_1.out); (case side3 => repeat (first | exact (Kd.C_below HR0_2.out HB.out) | (with_reducible refine Kd.C_alloc ?_ _) | (with_reducible refine Kd.C_drewN ?_ _) | (with_reducible refine Kd.C_drew ?_))); (case side4 => exact HC0_2.out); (case side5 => repeat (first | exact (Kd.C_below HR0_3.out HB.out) | (with_reducible refine Kd.C_alloc ?_ _) | (with_reducible refine Kd.C_drewN ?_ _) | (with_reducible refine Kd.C_drew ?_))); (case side6 => exact HC0_3.out); (case side7 => repeat (first | exact (Kd.C_below HR1.out HB.out) | (with_reducible refine Kd.C_alloc ?_ _) | (with_reducible refine Kd.C_drewN ?_ _) | (with_reducible refine Kd.C_drew ?_))); (case side8 => exact HC1.out); rintro e w157 ⟨v208, rfl, ho0, hb⟩; have n0_ := Aside0.mk (Kd.R_elder' (by (with_reducible repeat (first | apply Kd.R_alloc | apply Kd.R_drewN | apply Kd.R_drew)); exact HO201.out) (Kd.R_base ho0) hb); have n1_ := Aside0.mk (Kd.R_elder' (by (with_reducible repeat (first | apply Kd.R_alloc | apply Kd.R_drewN | apply Kd.R_drew)); exact HO205.out) (Kd.R_base ho0) hb); have n2_ := Aside0.mk (Kd.R_lower (Kd.R_new' (Kd.R_new' ho0 (Kd.R_lt (by (with_reducible repeat (first | apply Kd.R_alloc | apply Kd.R_drewN | apply Kd.R_drew)); exact HO201.out))) (Kd.R_lt (by (with_reducible repeat (first | apply Kd.R_alloc | apply Kd.R_drewN | apply Kd.R_drew)); exact HO205.out))) (below_size (by repeat (first | (with_reducible first | exact HB.out | apply below_alloc | apply pw_below_drewN | apply below_drew1 | refine below_set ?_ GE197.out) | exact HB.out)))); have n3_ := Aside0.mk (blk_below (g := gb197) (o := .cells #[.int .i64 a0_0, .slice A0_1 l0_1.length c0_1, .slice A0_2 l0_2.length c0_2, .slice A0_3 l0_3.length c0_3] 25 (0, 0)) (by (with_reducible repeat (first | refine blk_drewN ?_ _ | refine blk_drew ?_ | refine blk_alloc ?_ _)); exact BK197.out) hb); have n4_ := Aside0.mk (below_step (by repeat (first | (with_reducible first | exact HB.out | apply below_alloc | apply pw_below_drewN | apply below_drew1 | refine below_set ?_ GE197.out) | exact HB.out)) hb); clear HO201; clear HO205; clear BK197; clear HB; have HO201 := n0_; have HO205 := n1_; have HO209 := n2_; have BK197 := n3_; have HB := n4_; clear n0_ n1_ n2_ n3_ n4_; (try clear hb); (try clear hb2); (try clear hk); (try clear hi); (try clear ho0); have hcz158_0 : w157.cell? ⟨gb197, 0, none⟩ = some (.int .i64 a0_0) := (blk_cell BK197.out 0).trans rfl; have hcz158_1 : w157.cell? ⟨gb197, 1, none⟩ = some (.slice A0_1 l0_1.length c0_1) := (blk_cell BK197.out 1).trans rfl; have hcz158_2 : w157.cell? ⟨gb197, 2, none⟩ = some (.slice A0_2 l0_2.length c0_2) := (blk_cell BK197.out 2).trans rfl; have hcz158_3 : w157.cell? ⟨gb197, 3, none⟩ = some (.slice A0_3 l0_3.length c0_3) := (blk_cell BK197.out 3).trans rfl; have hfz158_0 := blk_frozen BK197.out 0; have hfz158_1 := blk_frozen BK197.out 1; have hfz158_2 := blk_frozen BK197.out 2; have hfz158_3 := blk_frozen BK197.out 3; obtain ⟨Ao159, co159, eo159⟩ := Kd.R_slice HO201.out; subst eo159) | (go_at_call 11; (with_reducible refine (lexpriorlaw14_marked.calls a0_0 _ _ t199 t211 true _ ?side1 ?side2 A9.out).mono ?_); (case side1 => repeat (first | exact (Kd.R_reads' HO201.out).2.2 | (with_reducible refine Kd.C_alloc ?_ _) | (with_reducible refine Kd.C_drewN ?_ _) | (with_reducible refine Kd.C_drew ?_))); (case side2 => exact (Kd.R_reads' HO201.out).2.1); rintro e w160 ⟨v213, rfl, ho0, hb⟩; have n0_ := Aside0.mk (Kd.R_below (by (with_reducible repeat (first | apply Kd.R_alloc | apply Kd.R_drewN | apply Kd.R_drew)); exact HO201.out) hb); have n1_ := Aside0.mk (Kd.R_below (by (with_reducible repeat (first | apply Kd.R_alloc | apply Kd.R_drewN | apply Kd.R_drew)); exact HO205.out) hb); have n2_ := Aside0.mk (Kd.R_below (by (with_reducible repeat (first | apply Kd.R_alloc | apply Kd.R_drewN | apply Kd.R_drew)); exact HO209.out) hb); have n3_ := Aside0.mk (Kd.R_lower ho0 (below_size (by repeat (first | (with_reducible first | exact HB.out | apply below_alloc | apply pw_below_drewN | apply below_drew1 | refine below_set ?_ GE197.out) | exact HB.out)))); have n4_ := Aside0.mk (blk_below (g := gb197) (o := .cells #[.int .i64 a0_0, .slice A0_1 l0_1.length c0_1, .slice A0_2 l0_2.length c0_2, .slice A0_3 l0_3.length c0_3] 25 (0, 0)) (by (with_reducible repeat (first | refine blk_drewN ?_ _ | refine blk_drew ?_ | refine blk_alloc ?_ _)); exact BK197.out) hb); have n5_ := Aside0.mk (below_step (by repeat (first | (with_reducible first | exact HB.out | apply below_alloc | apply pw_below_drewN | apply below_drew1 | refine below_set ?_ GE197.out) | exact HB.out)) hb); clear HO201; clear HO205; clear HO209; clear BK197; clear HB; have HO201 := n0_; have HO205 := n1_; have HO209 := n2_; have HO214 := n3_; have BK197 := n4_; have HB := n5_; clear n0_ n1_ n2_ n3_ n4_ n5_; (try clear hb); (try clear hb2); (try clear hk); (try clear hi); (try clear ho0); have hcz161_0 : w160.cell? ⟨gb197, 0, none⟩ = some (.int .i64 a0_0) := (blk_cell BK197.out 0).trans rfl; have hcz161_1 : w160.cell? ⟨gb197, 1, none⟩ = some (.slice A0_1 l0_1.length c0_1) := (blk_cell BK197.out 1).trans rfl; have hcz161_2 : w160.cell? ⟨gb197, 2, none⟩ = some (.slice A0_2 l0_2.length c0_2) := (blk_cell BK197.out 2).trans rfl; have hcz161_3 : w160.cell? ⟨gb197, 3, none⟩ = some (.slice A0_3 l0_3.length c0_3) := (blk_cell BK197.out 3).trans rfl; have hfz161_0 := blk_frozen BK197.out 0; have hfz161_1 := blk_frozen BK197.out 1; have hfz161_2 := blk_frozen BK197.out 2; have hfz161_3 := blk_frozen BK197.out 3; obtain ⟨Ao162, co162, eo162⟩ := Kd.R_slice HO205.out; subst eo162) | (go_at_call 11; (with_reducible refine (lexpriorlaw14_marked.calls a0_0 _ _ t203 t215 true _ ?side1 ?side2 A10.out).mono ?_); (case side1 => repeat (first | exact (Kd.R_reads' HO205.out).2.2 | (with_reducible refine Kd.C_alloc ?_ _) | (with_reducible refine Kd.C_drewN ?_ _) | (with_reducible refine Kd.C_drew ?_))); (case side2 => exact (Kd.R_reads' HO205.out).2.1); rintro e w163 ⟨v217, rfl, ho0, hb⟩; have n0_ := Aside0.mk (Kd.R_below (by (with_reducible repeat (first | apply Kd.R_alloc | apply Kd.R_drewN | apply Kd.R_drew)); exact HO201.out) hb); have n1_ := Aside0.mk (Kd.R_below (by (with_reducible repeat (first | apply Kd.R_alloc | apply Kd.R_drewN | apply Kd.R_drew)); exact HO205.out) hb); have n2_ := Aside0.mk (Kd.R_below (by (with_reducible repeat (first | apply Kd.R_alloc | apply Kd.R_drewN | apply Kd.R_drew)); exact HO209.out) hb); have n3_ := Aside0.mk (Kd.R_elder' (by (with_reducible repeat (first | apply Kd.R_alloc | apply Kd.R_drewN | apply Kd.R_drew)); exact HO214.out) (Kd.R_base ho0) hb); have n4_ := Aside0.mk (Kd.R_lower (Kd.R_new' ho0 (Kd.R_lt (by (with_reducible repeat (first | apply Kd.R_alloc | apply Kd.R_drewN | apply Kd.R_drew)); exact HO214.out))) (below_size (by repeat (first | (with_reducible first | exact HB.out | apply below_alloc | apply pw_below_drewN | apply below_drew1 | refine below_set ?_ GE197.out) | exact HB.out)))); have n5_ := Aside0.mk (blk_below (g := gb197) (o := .cells #[.int .i64 a0_0, .slice A0_1 l0_1.length c0_1, .slice A0_2 l0_2.length c0_2, .slice A0_3 l0_3.length c0_3] 25 (0, 0)) (by (with_reducible repeat (first | refine blk_drewN ?_ _ | refine blk_drew ?_ | refine blk_alloc ?_ _)); exact BK197.out) hb); have n6_ := Aside0.mk (below_step (by repeat (first | (with_reducible first | exact HB.out | apply below_alloc | apply pw_below_drewN | apply below_drew1 | refine below_set ?_ GE197.out) | exact HB.out)) hb); clear HO201; clear HO205; clear HO209; clear HO214; clear BK197; clear HB; have HO201 := n0_; have HO205 := n1_; have HO209 := n2_; have HO214 := n3_; have HO218 := n4_; have BK197 := n5_; have HB := n6_; clear n0_ n1_ n2_ n3_ n4_ n5_ n6_; (try clear hb); (try clear hb2); (try clear hk); (try clear hi); (try clear ho0); obtain ⟨Ao164, co164, eo164⟩ := Kd.R_slice HO209.out; subst eo164; have hcz165_0 : w163.cell? ⟨gb197, 0, none⟩ = some (.int .i64 a0_0) := (blk_cell BK197.out 0).trans rfl; have hcz165_1 : w163.cell? ⟨gb197, 1, none⟩ = some (.slice A0_1 l0_1.length c0_1) := (blk_cell BK197.out 1).trans rfl; have hcz165_2 : w163.cell? ⟨gb197, 2, none⟩ = some (.slice A0_2 l0_2.length c0_2) := (blk_cell BK197.out 2).trans rfl; have hcz165_3 : w163.cell? ⟨gb197, 3, none⟩ = some (.slice A0_3 l0_3.length c0_3) := (blk_cell BK197.out 3).trans rfl; have hfz165_0 := blk_frozen BK197.out 0; have hfz165_1 := blk_frozen BK197.out 1; have hfz165_2 := blk_frozen BK197.out 2; have hfz165_3 := blk_frozen BK197.out 3))
                go_ret
                exact ⟨by first | rfl | (simp [errW_none, errW_some] <;> rfl) | (simp [*, errW_none, errW_some] <;> rfl), by repeat (first | (with_reducible first | exact HB.out | apply below_alloc | apply pw_below_drewN | apply below_drew1 | refine below_set ?_ GE197.out) | exact HB.out)⟩
            · replace c14 := Bool.eq_false_iff.mpr c14
              subst c14
              have H1 : (none) = some r := by rw [if_neg (show ¬ (false = true) by decide)] at H; exact H
              clear H
              have H := H1
              clear H1
              exact absurd H (by simp)
          · replace c13 := Bool.eq_false_iff.mpr c13
            subst c13
            have H1 : (none) = some r := by rw [if_neg (show ¬ (false = true) by decide)] at H; exact H
            clear H
            have H := H1
            clear H1
            exact absurd H (by simp)
        · rw [if_neg c12] at H
          exact absurd H (by simp)
      · rw [if_neg c11] at H
        exact absurd H (by simp)
    · rw [if_neg c8] at H
      have c8b0 : (t202 == 0) = false := beq_eq_false_iff_ne.mpr c8
      have c8b1 : (t202 != 0) = true := bne_iff_ne.mpr c8
      by_cases c166 : t206 = t202
      · rw [if_pos c166] at H
        have c166b0 : (t206 == t202) = true := beq_iff_eq.mpr c166
        have c166b1 : (t206 != t202) = false := bne_eq_false_iff_eq.mpr c166
        clear c166
        by_cases c167 : t210 = t202
        · rw [if_pos c167] at H
          have c167b0 : (t210 == t202) = true := beq_iff_eq.mpr c167
          have c167b1 : (t210 != t202) = false := bne_eq_false_iff_eq.mpr c167
          clear c167
          obtain rfl := Option.some.inj H
          go_enter Try.func4, Try.ntmps4
          go_wp2_with (first | ((with_reducible refine gate_dst (N := 2) rfl ?_); (try (refine gate_guard (by rfl) ?_; dsimp only)); refine box_event ?hg (N := 2) ?hd (cs := #[.int .i64 a0_0, .slice A0_1 l0_1.length c0_1, .slice A0_2 l0_2.length c0_2, .slice A0_3 l0_3.length c0_3]) (t := 25) ?hr ?_; (case hd => rfl); (case hg => rfl); (case hr => first | (go_simp; done) | (go_simp; rfl)); intro gb197 hg w168 hbox hb; have n0_ := Aside0.mk (below_step (by repeat (first | (with_reducible first | exact HB.out | apply below_alloc | apply pw_below_drewN | apply below_drew1) | exact HB.out)) hb); have n1_ := Aside0.mk (hbox); have n2_ := Aside0.mk ((by rw [hg]; exact (below_size (by repeat (first | (with_reducible first | exact HB.out | apply below_alloc | apply pw_below_drewN | apply below_drew1) | exact HB.out))) : w.heap.size ≤ gb197)); have n3_ := Aside0.mk ((by rw [hg]; exact (below_size (by repeat (first | (with_reducible first | exact HB.out | apply below_alloc | apply pw_below_drewN | apply below_drew1) | exact HB.out))) : w.heap.size ≤ gb197)); clear HB; have HB := n0_; have BK197 := n1_; have GW197 := n2_; have GE197 := n3_; clear n0_ n1_ n2_ n3_; clear hb hbox hg) | (go_at_call 8; (with_reducible refine (lexpriorlaw14_works.calls k  true _ A3.out).mono ?_); rintro e w169 ⟨rfl, hb⟩; have n0_ := Aside0.mk (blk_below (g := gb197) (o := .cells #[.int .i64 a0_0, .slice A0_1 l0_1.length c0_1, .slice A0_2 l0_2.length c0_2, .slice A0_3 l0_3.length c0_3] 25 (0, 0)) (by (with_reducible repeat (first | refine blk_drewN ?_ _ | refine blk_drew ?_ | refine blk_alloc ?_ _)); exact BK197.out) hb); have n1_ := Aside0.mk (below_step (by repeat (first | (with_reducible first | exact HB.out | apply below_alloc | apply pw_below_drewN | apply below_drew1 | refine below_set ?_ GE197.out) | exact HB.out)) hb); clear BK197; clear HB; have BK197 := n0_; have HB := n1_; clear n0_ n1_; (try clear hb); (try clear hb2); (try clear hk); (try clear hi); have hcz170_0 : w169.cell? ⟨gb197, 0, none⟩ = some (.int .i64 a0_0) := (blk_cell BK197.out 0).trans rfl; have hcz170_1 : w169.cell? ⟨gb197, 1, none⟩ = some (.slice A0_1 l0_1.length c0_1) := (blk_cell BK197.out 1).trans rfl; have hcz170_2 : w169.cell? ⟨gb197, 2, none⟩ = some (.slice A0_2 l0_2.length c0_2) := (blk_cell BK197.out 2).trans rfl; have hcz170_3 : w169.cell? ⟨gb197, 3, none⟩ = some (.slice A0_3 l0_3.length c0_3) := (blk_cell BK197.out 3).trans rfl; have hfz170_0 := blk_frozen BK197.out 0; have hfz170_1 := blk_frozen BK197.out 1; have hfz170_2 := blk_frozen BK197.out 2; have hfz170_3 := blk_frozen BK197.out 3) | (go_at_call 9; (with_reducible refine (strict_Plus.calls k a0_0 _ _ l0_1 _ _ l0_2 _ _ l0_3 _ _ l1 t199 t202 _ ?side1 ?side2 ?side3 ?side4 ?side5 ?side6 ?side7 ?side8 A5.out).mono ?_); (case side1 => repeat (first | exact (Kd.C_below HR0_1.out HB.out) | (with_reducible refine Kd.C_alloc ?_ _) | (with_reducible refine Kd.C_drewN ?_ _) | (with_reducible refine Kd.C_drew ?_))); (case side2 => exact HC0_1.out); (case side3 => repeat (first | exact (Kd.C_below HR0_2.out HB.out) | (with_reducible refine Kd.C_alloc ?_ _) | (with_reducible refine Kd.C_drewN ?_ _) | (with_reducible refine Kd.C_drew ?_))); (case side4 => exact HC0_2.out); (case side5 => repeat (first | exact (Kd.C_below HR0_3.out HB.out) | (with_reducible refine Kd.C_alloc ?_ _) | (with_reducible refine Kd.C_drewN ?_ _) | (with_reducible refine Kd.C_drew ?_))); (case side6 => exact HC0_3.out); (case side7 => repeat (first | exact (Kd.C_below HR1.out HB.out) | (with_reducible refine Kd.C_alloc ?_ _) | (with_reducible refine Kd.C_drewN ?_ _) | (with_reducible refine Kd.C_drew ?_))); (case side8 => exact HC1.out); rintro e w171 ⟨v200, rfl, ho0, hb⟩; have n0_ := Aside0.mk (Kd.R_lower ho0 (below_size (by repeat (first | (with_reducible first | exact HB.out | apply below_alloc | apply pw_below_drewN | apply below_drew1 | refine below_set ?_ GE197.out) | exact HB.out)))); have n1_ := Aside0.mk (blk_below (g := gb197) (o := .cells #[.int .i64 a0_0, .slice A0_1 l0_1.length c0_1, .slice A0_2 l0_2.length c0_2, .slice A0_3 l0_3.length c0_3] 25 (0, 0)) (by (with_reducible repeat (first | refine blk_drewN ?_ _ | refine blk_drew ?_ | refine blk_alloc ?_ _)); exact BK197.out) hb); have n2_ := Aside0.mk (below_step (by repeat (first | (with_reducible first | exact HB.out | apply below_alloc | apply pw_below_drewN | apply below_drew1 | refine below_set ?_ GE197.out) | exact HB.out)) hb); clear BK197; clear HB; have HO201 := n0_; have BK197 := n1_; have HB := n2_; clear n0_ n1_ n2_; (try clear hb); (try clear hb2); (try clear hk); (try clear hi); (try clear ho0); have hcz172_0 : w171.cell? ⟨gb197, 0, none⟩ = some (.int .i64 a0_0) := (blk_cell BK197.out 0).trans rfl; have hcz172_1 : w171.cell? ⟨gb197, 1, none⟩ = some (.slice A0_1 l0_1.length c0_1) := (blk_cell BK197.out 1).trans rfl; have hcz172_2 : w171.cell? ⟨gb197, 2, none⟩ = some (.slice A0_2 l0_2.length c0_2) := (blk_cell BK197.out 2).trans rfl; have hcz172_3 : w171.cell? ⟨gb197, 3, none⟩ = some (.slice A0_3 l0_3.length c0_3) := (blk_cell BK197.out 3).trans rfl; have hfz172_0 := blk_frozen BK197.out 0; have hfz172_1 := blk_frozen BK197.out 1; have hfz172_2 := blk_frozen BK197.out 2; have hfz172_3 := blk_frozen BK197.out 3) | (go_at_call 10; (with_reducible refine (strict_Minus.calls k a0_0 _ _ l0_1 _ _ l0_2 _ _ l0_3 _ _ l1 t203 t206 _ ?side1 ?side2 ?side3 ?side4 ?side5 ?side6 ?side7 ?side8 A6.out).mono ?_); (case side1 => repeat (first | exact (Kd.C_below HR0_1.out HB.out) | (with_reducible refine Kd.C_alloc ?_ _) | (with_reducible refine Kd.C_drewN ?_ _) | (with_reducible refine Kd.C_drew ?_))); (case side2 => exact HC0_1.out); (case side3 => repeat (first | exact (Kd.C_below HR0_2.out HB.out) | (with_reducible refine Kd.C_alloc ?_ _) | (with_reducible refine Kd.C_drewN ?_ _) | (with_reducible refine Kd.C_drew ?_))); (case side4 => exact HC0_2.out); (case side5 => repeat (first | exact (Kd.C_below HR0_3.out HB.out) | (with_reducible refine Kd.C_alloc ?_ _) | (with_reducible refine Kd.C_drewN ?_ _) | (with_reducible refine Kd.C_drew ?_))); (case side6 => exact HC0_3.out); (case side7 => repeat (first | exact (Kd.C_below HR1.out HB.out) | (with_reducible refine Kd.C_alloc ?_ _) | (with_reducible refine Kd.C_drewN ?_ _) | (with_reducible refine Kd.C_drew ?_))); (case side8 => exact HC1.out); rintro e w173 ⟨v204, rfl, ho0, hb⟩; have n0_ := Aside0.mk (Kd.R_elder' (by (with_reducible repeat (first | apply Kd.R_alloc | apply Kd.R_drewN | apply Kd.R_drew)); exact HO201.out) (Kd.R_base ho0) hb); have n1_ := Aside0.mk (Kd.R_lower (Kd.R_new' ho0 (Kd.R_lt (by (with_reducible repeat (first | apply Kd.R_alloc | apply Kd.R_drewN | apply Kd.R_drew)); exact HO201.out))) (below_size (by repeat (first | (with_reducible first | exact HB.out | apply below_alloc | apply pw_below_drewN | apply below_drew1 | refine below_set ?_ GE197.out) | exact HB.out)))); have n2_ := Aside0.mk (blk_below (g := gb197) (o := .cells #[.int .i64 a0_0, .slice A0_1 l0_1.length c0_1, .slice A0_2 l0_2.length c0_2, .slice A0_3 l0_3.length c0_3] 25 (0, 0)) (by (with_reducible repeat (first | refine blk_drewN ?_ _ | refine blk_drew ?_ | refine blk_alloc ?_ _)); exact BK197.out) hb); have n3_ := Aside0.mk (below_step (by repeat (first | (with_reducible first | exact HB.out | apply below_alloc | apply pw_below_drewN | apply below_drew1 | refine below_set ?_ GE197.out) | exact HB.out)) hb); clear HO201; clear BK197; clear HB; have HO201 := n0_; have HO205 := n1_; have BK197 := n2_; have HB := n3_; clear n0_ n1_ n2_ n3_; (try clear hb); (try clear hb2); (try clear hk); (try clear hi); (try clear ho0); have hcz174_0 : w173.cell? ⟨gb197, 0, none⟩ = some (.int .i64 a0_0) := (blk_cell BK197.out 0).trans rfl; have hcz174_1 : w173.cell? ⟨gb197, 1, none⟩ = some (.slice A0_1 l0_1.length c0_1) := (blk_cell BK197.out 1).trans rfl; have hcz174_2 : w173.cell? ⟨gb197, 2, none⟩ = some (.slice A0_2 l0_2.length c0_2) := (blk_cell BK197.out 2).trans rfl; have hcz174_3 : w173.cell? ⟨gb197, 3, none⟩ = some (.slice A0_3 l0_3.length c0_3) := (blk_cell BK197.out 3).trans rfl; have hfz174_0 := blk_frozen BK197.out 0; have hfz174_1 := blk_frozen BK197.out 1; have hfz174_2 := blk_frozen BK197.out 2; have hfz174_3 := blk_frozen BK197.out 3) | (go_at_call 12; (with_reducible refine (strict_Neither.calls k a0_0 _ _ l0_1 _ _ l0_2 _ _ l0_3 _ _ l1 t207 t210 _ ?side1 ?side2 ?side3 ?side4 ?side5 ?side6 ?side7 ?side8 A7.out).mono ?_); (case side1 => repeat (first | exact (Kd.C_below HR0_1.out HB.out) | (with_reducible refine Kd.C_alloc ?_ _) | (with_reducible refine Kd.C_drewN ?_ _) | (with_reducible refine Kd.C_drew ?_))); (case side2 => exact HC0_1.out); (case side3 => repeat (first | exact (Kd.C_below HR0_2.out HB.out) | (with_reducible refine Kd.C_alloc ?_ _) | (with_reducible refine Kd.C_drewN ?_ _) | (with_reducible refine Kd.C_drew ?_))); (case side4 => exact HC0_2.out); (case side5 => repeat (first | exact (Kd.C_below HR0_3.out HB.out) | (with_reducible refine Kd.C_alloc ?_ _) | (with_reducible refine Kd.C_drewN ?_ _) | (with_reducible refine Kd.C_drew ?_))); (case side6 => exact HC0_3.out); (case side7 => repeat (first | exact (Kd.C_below HR1.out HB.out) | (with_reducible refine Kd.C_alloc ?_ _) | (with_reducible refine Kd.C_drewN ?_ _) | (with_reducible refine Kd.C_drew ?_))); (case side8 => exact HC1.out); rintro e w175 ⟨v208, rfl, ho0, hb⟩; have n0_ := Aside0.mk (Kd.R_elder' (by (with_reducible repeat (first | apply Kd.R_alloc | apply Kd.R_drewN | apply Kd.R_drew)); exact HO201.out) (Kd.R_base ho0) hb); have n1_ := Aside0.mk (Kd.R_elder' (by (with_reducible repeat (first | apply Kd.R_alloc | apply Kd.R_drewN | apply Kd.R_drew)); exact HO205.out) (Kd.R_base ho0) hb); have n2_ := Aside0.mk (Kd.R_lower (Kd.R_new' (Kd.R_new' ho0 (Kd.R_lt (by (with_reducible repeat (first | apply Kd.R_alloc | apply Kd.R_drewN | apply Kd.R_drew)); exact HO201.out))) (Kd.R_lt (by (with_reducible repeat (first | apply Kd.R_alloc | apply Kd.R_drewN | apply Kd.R_drew)); exact HO205.out))) (below_size (by repeat (first | (with_reducible first | exact HB.out | apply below_alloc | apply pw_below_drewN | apply below_drew1 | refine below_set ?_ GE197.out) | exact HB.out)))); have n3_ := Aside0.mk (blk_below (g := gb197) (o := .cells #[.int .i64 a0_0, .slice A0_1 l0_1.length c0_1, .slice A0_2 l0_2.length c0_2, .slice A0_3 l0_3.length c0_3] 25 (0, 0)) (by (with_reducible repeat (first | refine blk_drewN ?_ _ | refine blk_drew ?_ | refine blk_alloc ?_ _)); exact BK197.out) hb); have n4_ := Aside0.mk (below_step (by repeat (first | (with_reducible first | exact HB.out | apply below_alloc | apply pw_below_drewN | apply below_drew1 | refine below_set ?_ GE197.out) | exact HB.out)) hb); clear HO201; clear HO205; clear BK197; clear HB; have HO201 := n0_; have HO205 := n1_; have HO209 := n2_; have BK197 := n3_; have HB := n4_; clear n0_ n1_ n2_ n3_ n4_; (try clear hb); (try clear hb2); (try clear hk); (try clear hi); (try clear ho0); obtain ⟨Ao176, co176, eo176⟩ := Kd.R_slice HO201.out; subst eo176; obtain ⟨Ao177, co177, eo177⟩ := Kd.R_slice HO205.out; subst eo177; obtain ⟨Ao178, co178, eo178⟩ := Kd.R_slice HO209.out; subst eo178))
          go_ret
          exact ⟨by first | rfl | (simp [errW_none, errW_some] <;> rfl) | (simp [*, errW_none, errW_some] <;> rfl), by repeat (first | (with_reducible first | exact HB.out | apply below_alloc | apply pw_below_drewN | apply below_drew1 | refine below_set ?_ GE197.out) | exact HB.out)⟩
        · rw [if_neg c167] at H
          exact absurd H (by simp)
      · rw [if_neg c166] at H
        exact absurd H (by simp)
  · replace c4 := Bool.eq_false_iff.mpr c4
    subst c4
    have H1 : (none) = some r := by rw [if_neg (show ¬ (false = true) by decide)] at H; exact H
    clear H
    have H := H1
    clear H1
    exact absurd H (by simp)

end Go.Proofs.Ythlmpioijjnmnaa.P
