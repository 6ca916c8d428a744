-- Written by lexprint.py, a program of this session's own that runs the kit's print with turned rows. Lean checks it.
import Derived.Test.YtpcaonkahhbgfaaPx0
import Derived.Test.YtpcaonkahhbgfaaPx9
import Derived.Test.YtpcaonkahhbgfaaPx11
import Derived.Test.YtpcaonkahhbgfaaPx12
import Derived.Test.YtpcaonkahhbgfaaPx13
namespace Go.Proofs.Ytpcaonkahhbgfaa.P
open Go.RowKit Go.Proofs.YtpcaonkahhbgfaaW.PrintWords Go.Proofs.YtpcaonkahhbgfaaW.PrintLast Go.Proofs.YtpcaonkahhbgfaaW.PrintMore
attribute [local go_sem] max2_int min2_int max_two min_two
set_option linter.unusedVariables false
set_option linter.unusedSimpArgs false

/-! ### lexpriorlaw12_TheoryCones: function 3 -/
mutual
def lexpriorlaw12_TheoryCones.j0 : Nat → List Int → List Int → List Int → List Int → Bool → Int → List (List Int) → List (S36) → List (List Int) → Option (Bool)
 | 0, _, _, _, _, _, _, _, _, _ => none
 | k + 1, x1, x2, x7, x9, x42, x223000, x223001, x223002, x223003 => if x42 = true then (some true) else ((some (([] : List Int) : List Int)).bind fun y232 => (if y232.length + x1.length < 17592186044416 then ((some (y232 ++ x1 : List Int)).bind fun y235 => (if y235.length + x2.length < 17592186044416 then ((theory_Cone.f k x223000 x223001 x223002 x223003 (y235 ++ x2)).bind fun bt241 => ((theory_Cone.f k x223000 x223001 x223002 x223003 x7).bind fun bt245 => (if bt241.2 = 0 then (if bt245.2 = 0 then ((lexpriorplain_SameInts.f k bt245.1 x7).bind fun t249 => (if t249 = true then ((lexpriorlaw12_both.f k x7 x9).bind fun t250 => ((lexpriorplain_SameInts.f k bt241.1 t250).bind fun t253 => (if t253 = true then (if 0 ≤ x223000 then (if (x223000 : Int).toNat ≤ 281474976710656 then (lexpriorlaw12_TheoryCones.l0 k x1 x7 (List.replicate (x223000 : Int).toNat false) 0 x223000 x223001 x223002 x223003) else (none)) else (none)) else (none)))) else (none))) else (none)) else (none)))) else (none))) else (none)))
def lexpriorlaw12_TheoryCones.l0 : Nat → List Int → List Int → List Bool → Int → Int → List (List Int) → List (S36) → List (List Int) → Option (Bool)
 | 0, _, _, _, _, _, _, _, _ => none
 | k + 1, x1, x7, x16, x17, x223000, x223001, x223002, x223003 => if x17 < (x7.length : Int) then (if 0 ≤ x17 then (if 0 ≤ (rd x7 x17) then (if (rd x7 x17) < (x16.length : Int) then (lexpriorlaw12_TheoryCones.l0 k x1 x7 (x16.set ((rd x7 x17) : Int).toNat true) (wrap64 (x17 + 1)) x223000 x223001 x223002 x223003) else (none)) else (none)) else (none)) else (lexpriorlaw12_TheoryCones.l1 k x1 x16 0 x223000 x223001 x223002 x223003)
def lexpriorlaw12_TheoryCones.l1 : Nat → List Int → List Bool → Int → Int → List (List Int) → List (S36) → List (List Int) → Option (Bool)
 | 0, _, _, _, _, _, _, _ => none
 | k + 1, x1, x16, x18, x223000, x223001, x223002, x223003 => if x18 < (x1.length : Int) then (if 0 ≤ x18 then (if 0 ≤ (rd x1 x18) then (if (rd x1 x18) < (x16.length : Int) then (if (rdOf false x16 (rd x1 x18) = true) then (lexpriorlaw12_TheoryCones.l1 k x1 x16 (wrap64 (x18 + 1)) x223000 x223001 x223002 x223003) else (none)) else (none)) else (none)) else (none)) else (lexpriorlaw12_TheoryCones.l2 k x16 0 x223000 x223001 x223002 x223003)
def lexpriorlaw12_TheoryCones.l2 : Nat → List Bool → Int → Int → List (List Int) → List (S36) → List (List Int) → Option (Bool)
 | 0, _, _, _, _, _, _ => none
 | k + 1, x16, x19, x223000, x223001, x223002, x223003 => if x19 < x223000 then (lexpriorlaw12_TheoryCones.l3 k x16 x19 0 x223000 x223001 x223002 x223003) else (lexpriorlaw12_TheoryCones.l4 k x16 0 x223000 x223001 x223002 x223003)
def lexpriorlaw12_TheoryCones.l3 : Nat → List Bool → Int → Int → Int → List (List Int) → List (S36) → List (List Int) → Option (Bool)
 | 0, _, _, _, _, _, _, _ => none
 | k + 1, x16, x19, x20, x223000, x223001, x223002, x223003 => if 0 ≤ x19 then (if x19 < (x223001.length : Int) then (if x20 < ((rd_L1 x223001 x19).length : Int) then (if x19 < (x16.length : Int) then (if rdOf false x16 x19 = true then (if 0 ≤ x20 then (if 0 ≤ (rd (rd_L1 x223001 x19) x20) then (if (rd (rd_L1 x223001 x19) x20) < (x16.length : Int) then (if (rdOf false x16 (rd (rd_L1 x223001 x19) x20) = true) then (lexpriorlaw12_TheoryCones.l3 k x16 x19 (wrap64 (x20 + 1)) x223000 x223001 x223002 x223003) else (none)) else (none)) else (none)) else (none)) else (lexpriorlaw12_TheoryCones.l3 k x16 x19 (wrap64 (x20 + 1)) x223000 x223001 x223002 x223003)) else (none)) else (lexpriorlaw12_TheoryCones.l2 k x16 (wrap64 (x19 + 1)) x223000 x223001 x223002 x223003)) else (none)) else (none)
def lexpriorlaw12_TheoryCones.l4 : Nat → List Bool → Int → Int → List (List Int) → List (S36) → List (List Int) → Option (Bool)
 | 0, _, _, _, _, _, _ => none
 | k + 1, x16, x21, x223000, x223001, x223002, x223003 => if x21 < (x223002.length : Int) then (lexpriorlaw12_TheoryCones.l5 k x16 x21 0 x223000 x223001 x223002 x223003) else (some true)
def lexpriorlaw12_TheoryCones.l5 : Nat → List Bool → Int → Int → Int → List (List Int) → List (S36) → List (List Int) → Option (Bool)
 | 0, _, _, _, _, _, _, _ => none
 | k + 1, x16, x21, x22, x223000, x223001, x223002, x223003 => if 0 ≤ x21 then (if x21 < (x223002.length : Int) then (if x22 < (((rd_T36 x223002 x21).f2).length : Int) then (if 0 ≤ x22 then (if 0 ≤ (rd ((rd_T36 x223002 x21).f2) x22) then (if (rd ((rd_T36 x223002 x21).f2) x22) < (x16.length : Int) then (if rdOf false x16 (rd ((rd_T36 x223002 x21).f2) x22) = true then (if 0 ≤ ((rd_T36 x223002 x21).f1) then (if ((rd_T36 x223002 x21).f1) < (x16.length : Int) then (if (rdOf false x16 ((rd_T36 x223002 x21).f1) = true) then (lexpriorlaw12_TheoryCones.l5 k x16 x21 (wrap64 (x22 + 1)) x223000 x223001 x223002 x223003) else (none)) else (none)) else (none)) else (lexpriorlaw12_TheoryCones.l5 k x16 x21 (wrap64 (x22 + 1)) x223000 x223001 x223002 x223003)) else (none)) else (none)) else (none)) else (lexpriorlaw12_TheoryCones.l4 k x16 (wrap64 (x21 + 1)) x223000 x223001 x223002 x223003)) else (none)) else (none)
end
def lexpriorlaw12_TheoryCones.f (k : Nat) (a0_0 : Int) (l0_1 : List (List Int)) (l0_2 : List (S36)) (l0_3 : List (List Int)) (l1 : List Int) (l2 : List Int) : Option (Bool) := (lexpriorlaw12_works.f k).bind fun t223 => (if t223 = true then ((theory_Cone.f k a0_0 l0_1 l0_2 l0_3 l1).bind fun bt224 => ((theory_Cone.f k a0_0 l0_1 l0_2 l0_3 l2).bind fun bt228 => (if bt224.2 = 0 then (lexpriorlaw12_TheoryCones.j0 k l1 l2 bt224.1 bt228.1 (bt228.2 != 0) a0_0 l0_1 l0_2 l0_3) else (lexpriorlaw12_TheoryCones.j0 k l1 l2 bt224.1 bt228.1 true a0_0 l0_1 l0_2 l0_3)))) else (none))
set_option maxHeartbeats 8000000 in
set_option maxRecDepth 100000 in
theorem lexpriorlaw12_TheoryCones.calls (k : Nat) (a0_0 : Int) (A0_1 : Option Addr) (c0_1 : Nat) (l0_1 : List (List Int)) (A0_2 : Option Addr) (c0_2 : Nat) (l0_2 : List (S36)) (A0_3 : Option Addr) (c0_3 : Nat) (l0_3 : List (List Int)) (A1 : Option Addr) (c1 : Nat) (l1 : List Int) (A2 : Option Addr) (c2 : Nat) (l2 : List Int) (r : Bool) (w : World) (hr0_1 : Kd.C (Kd.slice 3 (Kd.int .i64)) w A0_1 l0_1.length l0_1) (hc0_1 : l0_1.length ≤ c0_1) (hr0_2 : Kd.C k36 w A0_2 l0_2.length l0_2) (hc0_2 : l0_2.length ≤ c0_2) (hr0_3 : Kd.C (Kd.slice 3 (Kd.int .i64)) w A0_3 l0_3.length l0_3) (hc0_3 : l0_3.length ≤ c0_3) (hr1 : Kd.C (Kd.int .i64) w A1 l1.length l1) (hc1 : l1.length ≤ c1) (hr2 : Kd.C (Kd.int .i64) w A2 l2.length l2) (hc2 : l2.length ≤ c2) (h : lexpriorlaw12_TheoryCones.f k a0_0 l0_1 l0_2 l0_3 l1 l2 = some r) :
  Calls Try.prog 3 #[.agg #[.int .i64 a0_0, .slice A0_1 l0_1.length c0_1, .slice A0_2 l0_2.length c0_2, .slice A0_3 l0_3.length c0_3], .slice A1 l1.length c1, .slice A2 l2.length c2] w fun e w' => e = .returned (.bool r) ∧ Below w.heap.size w w' := by
 have hu25 := Try.underlying25
 have HR0_1 := Aside0.mk hr0_1
 have HC0_1 := Aside0.mk hc0_1
 clear hr0_1 hc0_1
 have HR0_2 := Aside0.mk hr0_2
 have HC0_2 := Aside0.mk hc0_2
 clear hr0_2 hc0_2
 have HR0_3 := Aside0.mk hr0_3
 have HC0_3 := Aside0.mk hc0_3
 clear hr0_3 hc0_3
 have HR1 := Aside0.mk hr1
 have HC1 := Aside0.mk hc1
 clear hr1 hc1
 have HR2 := Aside0.mk hr2
 have HC2 := Aside0.mk hc2
 clear hr2 hc2
 have HB := Aside0.mk (Below.refl w.heap.size w)
 have H : ((lexpriorlaw12_works.f k).bind fun t223 => (if t223 = true then ((theory_Cone.f k a0_0 l0_1 l0_2 l0_3 l1).bind fun bt224 => ((theory_Cone.f k a0_0 l0_1 l0_2 l0_3 l2).bind fun bt228 => (if bt224.2 = 0 then (lexpriorlaw12_TheoryCones.j0 k l1 l2 bt224.1 bt228.1 (bt228.2 != 0) a0_0 l0_1 l0_2 l0_3) else (lexpriorlaw12_TheoryCones.j0 k l1 l2 bt224.1 bt228.1 true a0_0 l0_1 l0_2 l0_3)))) else (none))) = some r := h
 clear h
 replace H := Option.bind_eq_some_iff.mp H
 obtain ⟨t223, A40, H⟩ := H
 replace H : (if t223 = true then ((theory_Cone.f k a0_0 l0_1 l0_2 l0_3 l1).bind fun bt224 => ((theory_Cone.f k a0_0 l0_1 l0_2 l0_3 l2).bind fun bt228 => (if bt224.2 = 0 then (lexpriorlaw12_TheoryCones.j0 k l1 l2 bt224.1 bt228.1 (bt228.2 != 0) a0_0 l0_1 l0_2 l0_3) else (lexpriorlaw12_TheoryCones.j0 k l1 l2 bt224.1 bt228.1 true a0_0 l0_1 l0_2 l0_3)))) else (none)) = some r := H
 have A4 := Aside0.mk A40
 clear A40
 by_cases c5 : t223 = true
 ·subst c5
  have H1 : ((theory_Cone.f k a0_0 l0_1 l0_2 l0_3 l1).bind fun bt224 => ((theory_Cone.f k a0_0 l0_1 l0_2 l0_3 l2).bind fun bt228 => (if bt224.2 = 0 then (lexpriorlaw12_TheoryCones.j0 k l1 l2 bt224.1 bt228.1 (bt228.2 != 0) a0_0 l0_1 l0_2 l0_3) else (lexpriorlaw12_TheoryCones.j0 k l1 l2 bt224.1 bt228.1 true a0_0 l0_1 l0_2 l0_3)))) = some r := by rw [if_pos rfl] at H; exact H
  clear H
  have H := H1
  clear H1
  replace H := Option.bind_eq_some_iff.mp H
  obtain ⟨⟨t224, t227⟩, A60, H⟩ := H
  replace H : ((theory_Cone.f k a0_0 l0_1 l0_2 l0_3 l2).bind fun bt228 => (if t227 = 0 then (lexpriorlaw12_TheoryCones.j0 k l1 l2 t224 bt228.1 (bt228.2 != 0) a0_0 l0_1 l0_2 l0_3) else (lexpriorlaw12_TheoryCones.j0 k l1 l2 t224 bt228.1 true a0_0 l0_1 l0_2 l0_3))) = some r := H
  have A6 := Aside0.mk A60
  clear A60
  replace H := Option.bind_eq_some_iff.mp H
  obtain ⟨⟨t228, t231⟩, A70, H⟩ := H
  replace H : (if t227 = 0 then (lexpriorlaw12_TheoryCones.j0 k l1 l2 t224 t228 (t231 != 0) a0_0 l0_1 l0_2 l0_3) else (lexpriorlaw12_TheoryCones.j0 k l1 l2 t224 t228 true a0_0 l0_1 l0_2 l0_3)) = some r := H
  have A7 := Aside0.mk A70
  clear A70
  have HC8 := Aside0.mk H
  clear H
  go_enter Try.func3, Try.ntmps3
  go_upto_region 5 with (first | ((with_reducible refine gate_dst (N := 3) rfl ?_); refine box_event ?hg (N := 3) ?hd (cs := #[.int .i64 a0_0, .slice A0_1 l0_1.length c0_1, .slice A0_2 l0_2.length c0_2, .slice A0_3 l0_3.length c0_3]) (t := 25) ?hr ?_; (case hd => rfl); (case hg => rfl); (case hr => first | (go_simp; done) | (go_simp; rfl)); intro gb222 hg w9 hbox hb; have n0_ := Aside0.mk (below_step (by repeat (first | (with_reducible first | exact HB.out | apply below_alloc | apply pw_below_drewN | apply below_drew1) | exact HB.out)) hb); have n1_ := Aside0.mk (hbox); have n2_ := Aside0.mk ((by rw [hg]; exact (below_size (by repeat (first | (with_reducible first | exact HB.out | apply below_alloc | apply pw_below_drewN | apply below_drew1) | exact HB.out))) : w.heap.size ≤ gb222)); have n3_ := Aside0.mk ((by rw [hg]; exact (below_size (by repeat (first | (with_reducible first | exact HB.out | apply below_alloc | apply pw_below_drewN | apply below_drew1) | exact HB.out))) : w.heap.size ≤ gb222)); clear HB; have HB := n0_; have BK222 := n1_; have GW222 := n2_; have GE222 := n3_; clear n0_ n1_ n2_ n3_; clear hb hbox hg) | ((with_reducible refine gate_callee (f := 4) rfl ?_); refine goesL_ (some 23) rfl rfl Try.func4 (by kernel_rfl) rfl #[] rfl (by (try simp only [List.map_toArray, List.map_cons, List.map_nil]); first | done | rfl | (simp only [List.length_drop, List.length_take]; rfl)) ?_; (with_reducible refine (lexpriorlaw12_works.calls k  true _ A4.out).mono ?_); rintro e w10 ⟨rfl, hb⟩; refine ⟨_, rfl, ?_⟩; have n0_ := Aside0.mk (blk_below (g := gb222) (o := .cells #[.int .i64 a0_0, .slice A0_1 l0_1.length c0_1, .slice A0_2 l0_2.length c0_2, .slice A0_3 l0_3.length c0_3] 25 (0, 0)) (by (with_reducible repeat (first | refine blk_drewN ?_ _ | refine blk_drew ?_ | refine blk_alloc ?_ _)); exact BK222.out) hb); have n1_ := Aside0.mk (below_step (by repeat (first | (with_reducible first | exact HB.out | apply below_alloc | apply pw_below_drewN | apply below_drew1 | refine below_set ?_ GE222.out) | exact HB.out)) hb); clear BK222; clear HB; have BK222 := n0_; have HB := n1_; clear n0_ n1_; (try clear hb); (try clear hb2); (try clear hk); (try clear hi); have hcz11_0 : w10.cell? ⟨gb222, 0, none⟩ = some (.int .i64 a0_0) := (blk_cell BK222.out 0).trans rfl; have hcz11_1 : w10.cell? ⟨gb222, 1, none⟩ = some (.slice A0_1 l0_1.length c0_1) := (blk_cell BK222.out 1).trans rfl; have hcz11_2 : w10.cell? ⟨gb222, 2, none⟩ = some (.slice A0_2 l0_2.length c0_2) := (blk_cell BK222.out 2).trans rfl; have hcz11_3 : w10.cell? ⟨gb222, 3, none⟩ = some (.slice A0_3 l0_3.length c0_3) := (blk_cell BK222.out 3).trans rfl; have hfz11_0 := blk_frozen BK222.out 0; have hfz11_1 := blk_frozen BK222.out 1; have hfz11_2 := blk_frozen BK222.out 2; have hfz11_3 := blk_frozen BK222.out 3) | ((with_reducible refine gate_callee (f := 5) rfl ?_); refine goesL_ (some 28) rfl rfl Try.func5 (by kernel_rfl) rfl #[.agg #[.int .i64 a0_0, .slice A0_1 l0_1.length c0_1, .slice A0_2 l0_2.length c0_2, .slice A0_3 l0_3.length c0_3], .slice A1 l1.length c1] rfl (by (try simp only [List.map_toArray, List.map_cons, List.map_nil]); first | done | rfl | (simp only [List.length_drop, List.length_take]; rfl)) ?_; (with_reducible refine (theory_Cone.calls k a0_0 _ _ l0_1 _ _ l0_2 _ _ l0_3 _ _ l1 t224 t227 _ ?side1 ?side2 ?side3 ?side4 ?side5 ?side6 ?side7 ?side8 A6.out).mono ?_); (case side1 => repeat (first | exact (Kd.C_below HR0_1.out HB.out) | (with_reducible refine Kd.C_alloc ?_ _) | (with_reducible refine Kd.C_drewN ?_ _) | (with_reducible refine Kd.C_drew ?_))); (case side2 => exact HC0_1.out); (case side3 => repeat (first | exact (Kd.C_below HR0_2.out HB.out) | (with_reducible refine Kd.C_alloc ?_ _) | (with_reducible refine Kd.C_drewN ?_ _) | (with_reducible refine Kd.C_drew ?_))); (case side4 => exact HC0_2.out); (case side5 => repeat (first | exact (Kd.C_below HR0_3.out HB.out) | (with_reducible refine Kd.C_alloc ?_ _) | (with_reducible refine Kd.C_drewN ?_ _) | (with_reducible refine Kd.C_drew ?_))); (case side6 => exact HC0_3.out); (case side7 => repeat (first | exact (Kd.C_below HR1.out HB.out) | (with_reducible refine Kd.C_alloc ?_ _) | (with_reducible refine Kd.C_drewN ?_ _) | (with_reducible refine Kd.C_drew ?_))); (case side8 => exact HC1.out); rintro e w12 ⟨v225, rfl, ho0, hb⟩; refine ⟨_, rfl, ?_⟩; have n0_ := Aside0.mk (Kd.R_lower ho0 (below_size (by repeat (first | (with_reducible first | exact HB.out | apply below_alloc | apply pw_below_drewN | apply below_drew1 | refine below_set ?_ GE222.out) | exact HB.out)))); have n1_ := Aside0.mk (blk_below (g := gb222) (o := .cells #[.int .i64 a0_0, .slice A0_1 l0_1.length c0_1, .slice A0_2 l0_2.length c0_2, .slice A0_3 l0_3.length c0_3] 25 (0, 0)) (by (with_reducible repeat (first | refine blk_drewN ?_ _ | refine blk_drew ?_ | refine blk_alloc ?_ _)); exact BK222.out) hb); have n2_ := Aside0.mk (below_step (by repeat (first | (with_reducible first | exact HB.out | apply below_alloc | apply pw_below_drewN | apply below_drew1 | refine below_set ?_ GE222.out) | exact HB.out)) hb); clear BK222; clear HB; have HO226 := n0_; have BK222 := n1_; have HB := n2_; clear n0_ n1_ n2_; (try clear hb); (try clear hb2); (try clear hk); (try clear hi); (try clear ho0); have hcz13_0 : w12.cell? ⟨gb222, 0, none⟩ = some (.int .i64 a0_0) := (blk_cell BK222.out 0).trans rfl; have hcz13_1 : w12.cell? ⟨gb222, 1, none⟩ = some (.slice A0_1 l0_1.length c0_1) := (blk_cell BK222.out 1).trans rfl; have hcz13_2 : w12.cell? ⟨gb222, 2, none⟩ = some (.slice A0_2 l0_2.length c0_2) := (blk_cell BK222.out 2).trans rfl; have hcz13_3 : w12.cell? ⟨gb222, 3, none⟩ = some (.slice A0_3 l0_3.length c0_3) := (blk_cell BK222.out 3).trans rfl; have hfz13_0 := blk_frozen BK222.out 0; have hfz13_1 := blk_frozen BK222.out 1; have hfz13_2 := blk_frozen BK222.out 2; have hfz13_3 := blk_frozen BK222.out 3) | ((with_reducible refine gate_callee (f := 5) rfl ?_); refine goesL_ (some 34) rfl rfl Try.func5 (by kernel_rfl) rfl #[.agg #[.int .i64 a0_0, .slice A0_1 l0_1.length c0_1, .slice A0_2 l0_2.length c0_2, .slice A0_3 l0_3.length c0_3], .slice A2 l2.length c2] rfl (by (try simp only [List.map_toArray, List.map_cons, List.map_nil]); first | done | rfl | (simp only [List.length_drop, List.length_take]; rfl)) ?_; (with_reducible refine (theory_Cone.calls k a0_0 _ _ l0_1 _ _ l0_2 _ _ l0_3 _ _ l2 t228 t231 _ ?side1 ?side2 ?side3 ?side4 ?side5 ?side6 ?side7 ?side8 A7.out).mono ?_); (case side1 => repeat (first | exact (Kd.C_below HR0_1.out HB.out) | (with_reducible refine Kd.C_alloc ?_ _) | (with_reducible refine Kd.C_drewN ?_ _) | (with_reducible refine Kd.C_drew ?_))); (case side2 => exact HC0_1.out); (case side3 => repeat (first | exact (Kd.C_below HR0_2.out HB.out) | (with_reducible refine Kd.C_alloc ?_ _) | (with_reducible refine Kd.C_drewN ?_ _) | (with_reducible refine Kd.C_drew ?_))); (case side4 => exact HC0_2.out); (case side5 => repeat (first | exact (Kd.C_below HR0_3.out HB.out) | (with_reducible refine Kd.C_alloc ?_ _) | (with_reducible refine Kd.C_drewN ?_ _) | (with_reducible refine Kd.C_drew ?_))); (case side6 => exact HC0_3.out); (case side7 => repeat (first | exact (Kd.C_below HR2.out HB.out) | (with_reducible refine Kd.C_alloc ?_ _) | (with_reducible refine Kd.C_drewN ?_ _) | (with_reducible refine Kd.C_drew ?_))); (case side8 => exact HC2.out); rintro e w14 ⟨v229, rfl, ho0, hb⟩; refine ⟨_, rfl, ?_⟩; have n0_ := Aside0.mk (Kd.R_elder' (by (with_reducible repeat (first | apply Kd.R_alloc | apply Kd.R_drewN | apply Kd.R_drew)); exact HO226.out) (Kd.R_base ho0) hb); have n1_ := Aside0.mk (Kd.R_lower (Kd.R_new' ho0 (Kd.R_lt (by (with_reducible repeat (first | apply Kd.R_alloc | apply Kd.R_drewN | apply Kd.R_drew)); exact HO226.out))) (below_size (by repeat (first | (with_reducible first | exact HB.out | apply below_alloc | apply pw_below_drewN | apply below_drew1 | refine below_set ?_ GE222.out) | exact HB.out)))); have n2_ := Aside0.mk (blk_below (g := gb222) (o := .cells #[.int .i64 a0_0, .slice A0_1 l0_1.length c0_1, .slice A0_2 l0_2.length c0_2, .slice A0_3 l0_3.length c0_3] 25 (0, 0)) (by (with_reducible repeat (first | refine blk_drewN ?_ _ | refine blk_drew ?_ | refine blk_alloc ?_ _)); exact BK222.out) hb); have n3_ := Aside0.mk (below_step (by repeat (first | (with_reducible first | exact HB.out | apply below_alloc | apply pw_below_drewN | apply below_drew1 | refine below_set ?_ GE222.out) | exact HB.out)) hb); clear HO226; clear BK222; clear HB; have HO226 := n0_; have HO230 := n1_; have BK222 := n2_; have HB := n3_; clear n0_ n1_ n2_ n3_; (try clear hb); (try clear hb2); (try clear hk); (try clear hi); (try clear ho0)))
  (try simp only [Act.put, List.setIfInBounds_toArray, List.set_cons_zero, List.set_cons_succ])
  go_cut [42] (fun v42 wc => ∃ (kq : Nat) (x42_7 : Bool), v42 = .bool x42_7 ∧ Aside0 (lexpriorlaw12_TheoryCones.j0 kq l1 l2 t224 t228 x42_7 a0_0 l0_1 l0_2 l0_3 = some r) ∧ Aside0 (kq ≤ k) ∧ Aside0 (Kd.R (Kd.int .i64) 3 wc w.heap.size (fun k_ => some k_ ≠ (v229 : Value).ownBlock) v225 t224) ∧ Aside0 (Kd.R (Kd.int .i64) 3 wc w.heap.size (fun k_ => some k_ ≠ (v225 : Value).ownBlock) v229 t228) ∧ Aside0 (wc.heap[gb222]? = some (.cells #[.int .i64 a0_0, (.slice A0_1 l0_1.length c0_1), (.slice A0_2 l0_2.length c0_2), (.slice A0_3 l0_3.length c0_3)] 25 (0, 0))) ∧ Aside0 (Below w.heap.size w wc))
  case first =>
   have H := HC8.out
   clear HC8
   by_cases c15 : t227 = 0
   ·rw [if_pos c15] at H
    have c15b0 : (t227 == 0) = true := beq_iff_eq.mpr c15
    have c15b1 : (t227 != 0) = false := bne_eq_false_iff_eq.mpr c15
    clear c15
    (first | rw [c15b0] | (simp only [i64_w, i32_w]; rw [c15b0]) | skip)
    have H' := Aside0.mk H
    clear H
    go_wp2
    go_meet
    case rel => exact ⟨_, ((t231 != 0)), (by first | rfl | (simp; done) | (simp [*]; done)), H', ⟨by first | omega | exact Nat.le_refl _⟩, ⟨by (with_reducible repeat (first | apply Kd.R_alloc | apply Kd.R_drewN | apply Kd.R_drew)); exact Kd.R_mono HO226.out (fun _ hk => hk.2)⟩, ⟨by (with_reducible repeat (first | apply Kd.R_alloc | apply Kd.R_drewN | apply Kd.R_drew)); exact Kd.R_mono HO230.out (fun _ hk => hk.2)⟩, ⟨by (with_reducible repeat (first | refine blk_drewN ?_ _ | refine blk_drew ?_ | refine blk_alloc ?_ _)); exact BK222.out⟩, ⟨by repeat (first | (with_reducible first | exact HB.out | apply below_alloc | apply pw_below_drewN | apply below_drew1 | refine below_set ?_ GE222.out) | exact HB.out)⟩⟩
   ·rw [if_neg c15] at H
    have c15b0 : (t227 == 0) = false := beq_eq_false_iff_ne.mpr c15
    have c15b1 : (t227 != 0) = true := bne_iff_ne.mpr c15
    (first | rw [c15b0] | (simp only [i64_w, i32_w]; rw [c15b0]) | skip)
    have H' := Aside0.mk H
    clear H
    go_wp2
    go_meet
    case rel => exact ⟨_, (true), (rfl), H', ⟨by first | omega | exact Nat.le_refl _⟩, ⟨Kd.R_mono HO226.out (fun _ hk => hk.2)⟩, ⟨Kd.R_mono HO230.out (fun _ hk => hk.2)⟩, ⟨BK222.out⟩, ⟨HB.out⟩⟩
  case rest =>
   clear HC8
   obtain ⟨kq, x42_7, rfl, HA, HJ7, HO_7, HO_9, BK222, HB⟩ := hcut
   cases kq with
   | zero => exact absurd HA.out (by simp [lexpriorlaw12_TheoryCones.j0])
   | succ kj7 =>
    have H := HA.out
    clear HA
    simp only [lexpriorlaw12_TheoryCones.j0] at H
    by_cases c16 : x42_7 = true
    ·subst c16
     have H1 : (some true) = some r := by rw [if_pos rfl] at H; exact H
     clear H
     have H := H1
     clear H1
     obtain rfl := Option.some.inj H
     go_wp2
     go_ret
     exact ⟨rfl, HB.out⟩
    ·replace c16 := Bool.eq_false_iff.mpr c16
     subst c16
     have H1 : ((some (([] : List Int) : List Int)).bind fun y232 => (if y232.length + l1.length < 17592186044416 then ((some (y232 ++ l1 : List Int)).bind fun y235 => (if y235.length + l2.length < 17592186044416 then ((theory_Cone.f kj7 a0_0 l0_1 l0_2 l0_3 (y235 ++ l2)).bind fun bt241 => ((theory_Cone.f kj7 a0_0 l0_1 l0_2 l0_3 t224).bind fun bt245 => (if bt241.2 = 0 then (if bt245.2 = 0 then ((lexpriorplain_SameInts.f kj7 bt245.1 t224).bind fun t249 => (if t249 = true then ((lexpriorlaw12_both.f kj7 t224 t228).bind fun t250 => ((lexpriorplain_SameInts.f kj7 bt241.1 t250).bind fun t253 => (if t253 = true then (if 0 ≤ a0_0 then (if (a0_0 : Int).toNat ≤ 281474976710656 then (lexpriorlaw12_TheoryCones.l0 kj7 l1 t224 (List.replicate (a0_0 : Int).toNat false) 0 a0_0 l0_1 l0_2 l0_3) else (none)) else (none)) else (none)))) else (none))) else (none)) else (none)))) else (none))) else (none))) = some r := by rw [if_neg (show ¬ (false = true) by decide)] at H; exact H
     clear H
     have H := H1
     clear H1
     obtain ⟨y232, hy232⟩ : ∃ y_ : List Int, y_ = (([] : List Int)) := ⟨_, rfl⟩
     replace H : (if y232.length + l1.length < 17592186044416 then ((some (y232 ++ l1 : List Int)).bind fun y235 => (if y235.length + l2.length < 17592186044416 then ((theory_Cone.f kj7 a0_0 l0_1 l0_2 l0_3 (y235 ++ l2)).bind fun bt241 => ((theory_Cone.f kj7 a0_0 l0_1 l0_2 l0_3 t224).bind fun bt245 => (if bt241.2 = 0 then (if bt245.2 = 0 then ((lexpriorplain_SameInts.f kj7 bt245.1 t224).bind fun t249 => (if t249 = true then ((lexpriorlaw12_both.f kj7 t224 t228).bind fun t250 => ((lexpriorplain_SameInts.f kj7 bt241.1 t250).bind fun t253 => (if t253 = true then (if 0 ≤ a0_0 then (if (a0_0 : Int).toNat ≤ 281474976710656 then (lexpriorlaw12_TheoryCones.l0 kj7 l1 t224 (List.replicate (a0_0 : Int).toNat false) 0 a0_0 l0_1 l0_2 l0_3) else (none)) else (none)) else (none)))) else (none))) else (none)) else (none)))) else (none))) else (none)) = some r := by first | (rw [hy232]; with_reducible exact H) | (have H2_ := (Option.bind_some _ _).symm.trans H; rw [hy232]; with_reducible exact H2_) | (have H2_ := (Option.bind_some _ _).symm.trans H; with_reducible exact H2_) | with_reducible exact H | (rw [hy232]; exact H) | exact H
     have Ny232 := Aside0.mk hy232
     clear hy232
     by_cases c17 : y232.length + l1.length < 17592186044416
     ·rw [if_pos c17] at H
      have LMc17 := Aside0.mk c17
      clear c17
      obtain ⟨y235, hy235⟩ : ∃ y_ : List Int, y_ = (y232 ++ l1) := ⟨_, rfl⟩
      replace H : (if y235.length + l2.length < 17592186044416 then ((theory_Cone.f kj7 a0_0 l0_1 l0_2 l0_3 (y235 ++ l2)).bind fun bt241 => ((theory_Cone.f kj7 a0_0 l0_1 l0_2 l0_3 t224).bind fun bt245 => (if bt241.2 = 0 then (if bt245.2 = 0 then ((lexpriorplain_SameInts.f kj7 bt245.1 t224).bind fun t249 => (if t249 = true then ((lexpriorlaw12_both.f kj7 t224 t228).bind fun t250 => ((lexpriorplain_SameInts.f kj7 bt241.1 t250).bind fun t253 => (if t253 = true then (if 0 ≤ a0_0 then (if (a0_0 : Int).toNat ≤ 281474976710656 then (lexpriorlaw12_TheoryCones.l0 kj7 l1 t224 (List.replicate (a0_0 : Int).toNat false) 0 a0_0 l0_1 l0_2 l0_3) else (none)) else (none)) else (none)))) else (none))) else (none)) else (none)))) else (none)) = some r := by first | (rw [hy235]; with_reducible exact H) | (have H2_ := (Option.bind_some _ _).symm.trans H; rw [hy235]; with_reducible exact H2_) | (have H2_ := (Option.bind_some _ _).symm.trans H; with_reducible exact H2_) | with_reducible exact H | (rw [hy235]; exact H) | exact H
      have Ny235 := Aside0.mk hy235
      clear hy235
      by_cases c18 : y235.length + l2.length < 17592186044416
      ·rw [if_pos c18] at H
       have LMc18 := Aside0.mk c18
       clear c18
       obtain ⟨y238, hy238⟩ : ∃ y_ : List Int, y_ = (y235 ++ l2) := ⟨_, rfl⟩
       replace H : ((theory_Cone.f kj7 a0_0 l0_1 l0_2 l0_3 y238).bind fun bt241 => ((theory_Cone.f kj7 a0_0 l0_1 l0_2 l0_3 t224).bind fun bt245 => (if bt241.2 = 0 then (if bt245.2 = 0 then ((lexpriorplain_SameInts.f kj7 bt245.1 t224).bind fun t249 => (if t249 = true then ((lexpriorlaw12_both.f kj7 t224 t228).bind fun t250 => ((lexpriorplain_SameInts.f kj7 bt241.1 t250).bind fun t253 => (if t253 = true then (if 0 ≤ a0_0 then (if (a0_0 : Int).toNat ≤ 281474976710656 then (lexpriorlaw12_TheoryCones.l0 kj7 l1 t224 (List.replicate (a0_0 : Int).toNat false) 0 a0_0 l0_1 l0_2 l0_3) else (none)) else (none)) else (none)))) else (none))) else (none)) else (none)))) = some r := by first | (rw [hy238]; with_reducible exact H) | (have H2_ := (Option.bind_some _ _).symm.trans H; rw [hy238]; with_reducible exact H2_) | (have H2_ := (Option.bind_some _ _).symm.trans H; with_reducible exact H2_) | with_reducible exact H | (rw [hy238]; exact H) | exact H
       have Ny238 := Aside0.mk hy238
       clear hy238
       replace H := Option.bind_eq_some_iff.mp H
       obtain ⟨⟨t241, t244⟩, A190, H⟩ := H
       replace H : ((theory_Cone.f kj7 a0_0 l0_1 l0_2 l0_3 t224).bind fun bt245 => (if t244 = 0 then (if bt245.2 = 0 then ((lexpriorplain_SameInts.f kj7 bt245.1 t224).bind fun t249 => (if t249 = true then ((lexpriorlaw12_both.f kj7 t224 t228).bind fun t250 => ((lexpriorplain_SameInts.f kj7 t241 t250).bind fun t253 => (if t253 = true then (if 0 ≤ a0_0 then (if (a0_0 : Int).toNat ≤ 281474976710656 then (lexpriorlaw12_TheoryCones.l0 kj7 l1 t224 (List.replicate (a0_0 : Int).toNat false) 0 a0_0 l0_1 l0_2 l0_3) else (none)) else (none)) else (none)))) else (none))) else (none)) else (none))) = some r := H
       have A19 := Aside0.mk A190
       clear A190
       replace H := Option.bind_eq_some_iff.mp H
       obtain ⟨⟨t245, t248⟩, A200, H⟩ := H
       replace H : (if t244 = 0 then (if t248 = 0 then ((lexpriorplain_SameInts.f kj7 t245 t224).bind fun t249 => (if t249 = true then ((lexpriorlaw12_both.f kj7 t224 t228).bind fun t250 => ((lexpriorplain_SameInts.f kj7 t241 t250).bind fun t253 => (if t253 = true then (if 0 ≤ a0_0 then (if (a0_0 : Int).toNat ≤ 281474976710656 then (lexpriorlaw12_TheoryCones.l0 kj7 l1 t224 (List.replicate (a0_0 : Int).toNat false) 0 a0_0 l0_1 l0_2 l0_3) else (none)) else (none)) else (none)))) else (none))) else (none)) else (none)) = some r := H
       have A20 := Aside0.mk A200
       clear A200
       by_cases c21 : t244 = 0
       ·rw [if_pos c21] at H
        have c21b0 : (t244 == 0) = true := beq_iff_eq.mpr c21
        have c21b1 : (t244 != 0) = false := bne_eq_false_iff_eq.mpr c21
        clear c21
        by_cases c22 : t248 = 0
        ·rw [if_pos c22] at H
         have c22b0 : (t248 == 0) = true := beq_iff_eq.mpr c22
         have c22b1 : (t248 != 0) = false := bne_eq_false_iff_eq.mpr c22
         clear c22
         replace H := Option.bind_eq_some_iff.mp H
         obtain ⟨t249, A230, H⟩ := H
         replace H : (if t249 = true then ((lexpriorlaw12_both.f kj7 t224 t228).bind fun t250 => ((lexpriorplain_SameInts.f kj7 t241 t250).bind fun t253 => (if t253 = true then (if 0 ≤ a0_0 then (if (a0_0 : Int).toNat ≤ 281474976710656 then (lexpriorlaw12_TheoryCones.l0 kj7 l1 t224 (List.replicate (a0_0 : Int).toNat false) 0 a0_0 l0_1 l0_2 l0_3) else (none)) else (none)) else (none)))) else (none)) = some r := H
         have A23 := Aside0.mk A230
         clear A230
         by_cases c24 : t249 = true
         ·subst c24
          have H1 : ((lexpriorlaw12_both.f kj7 t224 t228).bind fun t250 => ((lexpriorplain_SameInts.f kj7 t241 t250).bind fun t253 => (if t253 = true then (if 0 ≤ a0_0 then (if (a0_0 : Int).toNat ≤ 281474976710656 then (lexpriorlaw12_TheoryCones.l0 kj7 l1 t224 (List.replicate (a0_0 : Int).toNat false) 0 a0_0 l0_1 l0_2 l0_3) else (none)) else (none)) else (none)))) = some r := by rw [if_pos rfl] at H; exact H
          clear H
          have H := H1
          clear H1
          replace H := Option.bind_eq_some_iff.mp H
          obtain ⟨t250, A250, H⟩ := H
          replace H : ((lexpriorplain_SameInts.f kj7 t241 t250).bind fun t253 => (if t253 = true then (if 0 ≤ a0_0 then (if (a0_0 : Int).toNat ≤ 281474976710656 then (lexpriorlaw12_TheoryCones.l0 kj7 l1 t224 (List.replicate (a0_0 : Int).toNat false) 0 a0_0 l0_1 l0_2 l0_3) else (none)) else (none)) else (none))) = some r := H
          have A25 := Aside0.mk A250
          clear A250
          replace H := Option.bind_eq_some_iff.mp H
          obtain ⟨t253, A260, H⟩ := H
          replace H : (if t253 = true then (if 0 ≤ a0_0 then (if (a0_0 : Int).toNat ≤ 281474976710656 then (lexpriorlaw12_TheoryCones.l0 kj7 l1 t224 (List.replicate (a0_0 : Int).toNat false) 0 a0_0 l0_1 l0_2 l0_3) else (none)) else (none)) else (none)) = some r := H
          have A26 := Aside0.mk A260
          clear A260
          by_cases c27 : t253 = true
          ·subst c27
           have H1 : (if 0 ≤ a0_0 then (if (a0_0 : Int).toNat ≤ 281474976710656 then (lexpriorlaw12_TheoryCones.l0 kj7 l1 t224 (List.replicate (a0_0 : Int).toNat false) 0 a0_0 l0_1 l0_2 l0_3) else (none)) else (none)) = some r := by rw [if_pos rfl] at H; exact H
           clear H
           have H := H1
           clear H1
           by_cases c28 : 0 ≤ a0_0
           ·rw [if_pos c28] at H
            have c28b0 := eq_true c28
            have c28b1 : decide (0 ≤ a0_0) = true := decide_eq_true c28
            clear c28
            by_cases c29 : (a0_0 : Int).toNat ≤ 281474976710656
            ·rw [if_pos c29] at H
             have c29b0 := eq_true c29
             have c29b1 : decide ((a0_0 : Int).toNat ≤ 281474976710656) = true := decide_eq_true c29
             clear c29
             obtain ⟨y254, hy254⟩ : ∃ y_ : List Bool, y_ = (List.replicate (a0_0 : Int).toNat false) := ⟨_, rfl⟩
             replace H : (lexpriorlaw12_TheoryCones.l0 kj7 l1 t224 y254 0 a0_0 l0_1 l0_2 l0_3) = some r := by first | (rw [hy254]; with_reducible exact H) | (have H2_ := (Option.bind_some _ _).symm.trans H; rw [hy254]; with_reducible exact H2_) | (have H2_ := (Option.bind_some _ _).symm.trans H; with_reducible exact H2_) | with_reducible exact H | (rw [hy254]; exact H) | exact H
             have Ny254 := Aside0.mk hy254
             clear hy254
             have H' := Aside0.mk H
             clear H
             go_wp2_with (first | ((with_reducible refine gate_dst (N := 43) rfl ?_); refine Kd.R_lit (Kd.int .i64) _ 3 ?hg (N := 43) ?hd (xs := ([] : List Int)) (inner := []) (ok := fun _ => True) (okp := fun _ => True) ?hr ?hp (fun _ hk => hk) trivial (Below.refl _ _) (Nat.le_refl _) (by simp) ?_; (case hd => rfl); (case hg => rfl); (case hr => first | (go_simp; done) | (go_simp; rfl)); (case hp => exact (Reps.none _ _)); intro v233 w30 ho31 hb hg_ hnew_; clear hg_ hnew_; (first | rw [← Ny232.out] at ho31 | (simp only [Int.reduceToNat] at ho31; rw [← Ny232.out] at ho31)); have n0_ := Aside0.mk (Kd.R_elder' (by (with_reducible repeat (first | apply Kd.R_alloc | apply Kd.R_drewN | apply Kd.R_drew)); exact HO_7.out) (Kd.R_base ho31) hb); have n1_ := Aside0.mk (Kd.R_elder' (by (with_reducible repeat (first | apply Kd.R_alloc | apply Kd.R_drewN | apply Kd.R_drew)); exact HO_9.out) (Kd.R_base ho31) hb); have n2_ := Aside0.mk (Kd.R_lower (Kd.R_new' (Kd.R_new' ho31 (Kd.R_lt (by (with_reducible repeat (first | apply Kd.R_alloc | apply Kd.R_drewN | apply Kd.R_drew)); exact HO_7.out))) (Kd.R_lt (by (with_reducible repeat (first | apply Kd.R_alloc | apply Kd.R_drewN | apply Kd.R_drew)); exact HO_9.out))) (below_size (by repeat (first | (with_reducible first | exact HB.out | apply below_alloc | apply pw_below_drewN | apply below_drew1 | refine below_set ?_ GE222.out) | exact HB.out)))); have n3_ := Aside0.mk (blk_below (g := gb222) (o := .cells #[.int .i64 a0_0, .slice A0_1 l0_1.length c0_1, .slice A0_2 l0_2.length c0_2, .slice A0_3 l0_3.length c0_3] 25 (0, 0)) (by (with_reducible repeat (first | refine blk_drewN ?_ _ | refine blk_drew ?_ | refine blk_alloc ?_ _)); exact BK222.out) hb); have n4_ := Aside0.mk (below_step (by repeat (first | (with_reducible first | exact HB.out | apply below_alloc | apply pw_below_drewN | apply below_drew1 | refine below_set ?_ GE222.out) | exact HB.out)) hb); clear HO_7; clear HO_9; clear BK222; clear HB; have HO_7 := n0_; have HO_9 := n1_; have HO234 := n2_; have BK222 := n3_; have HB := n4_; clear n0_ n1_ n2_ n3_ n4_; clear hb ho31) | ((with_reducible refine gate_builtin (b := .append) (xs := #[.tmp 43, .tmp 44]) rfl ?_); at_builtin; refine Kd.R_append_rows (Kd.int .i64) (w0 := w) w.heap.size rfl (.tmp 43) (.tmp 44) 26 3 (.int .i64 0) 8 rfl Try.underlying26 info3 rfl (by decide) (by omega) v233 y232 l1 _ _ _ (fun k_ => some k_ ≠ (v225 : Value).ownBlock ∧ some k_ ≠ (v229 : Value).ownBlock) (fun _ => False) rfl rfl ?aO ?aR (fun _ _ h => h) (fun _ h => h.elim) ?aF ?aB ?aS ?aL ?_; (case aR => repeat (first | exact (Kd.C_below HR1.out HB.out) | (with_reducible refine Kd.C_alloc ?_ _) | (with_reducible refine Kd.C_drewN ?_ _) | (with_reducible refine Kd.C_drew ?_))); (case aB => exact (by repeat (first | (with_reducible first | exact HB.out | apply below_alloc | apply pw_below_drewN | apply below_drew1 | refine below_set ?_ GE222.out) | exact HB.out))); (case aF => exact (fun k_ hk => ⟨Kd.fresh' (Kd.R_lt (by (with_reducible repeat (first | apply Kd.R_alloc | apply Kd.R_drewN | apply Kd.R_drew)); exact HO_7.out)) k_ hk, Kd.fresh' (Kd.R_lt (by (with_reducible repeat (first | apply Kd.R_alloc | apply Kd.R_drewN | apply Kd.R_drew)); exact HO_9.out)) k_ hk⟩)); (case aO => exact (by (with_reducible repeat (first | apply Kd.R_alloc | apply Kd.R_drewN | apply Kd.R_drew)); exact Kd.R_mono HO234.out (fun _ hk => ⟨hk.1.2, hk.2⟩))); (case aS => exact (below_size (by repeat (first | (with_reducible first | exact HB.out | apply below_alloc | apply pw_below_drewN | apply below_drew1 | refine below_set ?_ GE222.out) | exact HB.out)))); (case aL => have := LMc17.out; omega); intro v236 w32 ho hb hg hat; rw [← Ny235.out] at ho; have n0_ := Aside0.mk (Kd.R_after (ok := (fun k_ => some k_ ≠ (v229 : Value).ownBlock)) (by (with_reducible repeat (first | apply Kd.R_alloc | apply Kd.R_drewN | apply Kd.R_drew)); exact HO_7.out) hg hat); have n1_ := Aside0.mk (Kd.R_after (ok := (fun k_ => some k_ ≠ (v225 : Value).ownBlock)) (by (with_reducible repeat (first | apply Kd.R_alloc | apply Kd.R_drewN | apply Kd.R_drew)); exact HO_9.out) hg hat); have n2_ := Aside0.mk (blk_grown (g := gb222) (o := .cells #[.int .i64 a0_0, .slice A0_1 l0_1.length c0_1, .slice A0_2 l0_2.length c0_2, .slice A0_3 l0_3.length c0_3] 25 (0, 0)) (by (with_reducible repeat (first | refine blk_drewN ?_ _ | refine blk_drew ?_ | refine blk_alloc ?_ _)); exact BK222.out) hg (Kd.R_ne HO234.out BK222.out (by decide))); have n3_ := Aside0.mk (hb); have n4_ := Aside0.mk (ho); clear HO_7; clear HO_9; clear BK222; clear HB; clear HO234; have HO_7 := n0_; have HO_9 := n1_; have BK222 := n2_; have HB := n3_; have HO237 := n4_; clear n0_ n1_ n2_ n3_ n4_; clear ho hb hg hat) | ((with_reducible refine gate_builtin (b := .append) (xs := #[.tmp 45, .tmp 46]) rfl ?_); at_builtin; refine Kd.R_append_rows (Kd.int .i64) (w0 := w) w.heap.size rfl (.tmp 45) (.tmp 46) 26 3 (.int .i64 0) 8 rfl Try.underlying26 info3 rfl (by decide) (by omega) v236 y235 l2 _ _ _ (fun k_ => some k_ ≠ (v225 : Value).ownBlock ∧ some k_ ≠ (v229 : Value).ownBlock) (fun _ => False) rfl rfl ?aO ?aR (fun _ _ h => h) (fun _ h => h.elim) ?aF ?aB ?aS ?aL ?_; (case aR => repeat (first | exact (Kd.C_below HR2.out HB.out) | (with_reducible refine Kd.C_alloc ?_ _) | (with_reducible refine Kd.C_drewN ?_ _) | (with_reducible refine Kd.C_drew ?_))); (case aB => exact (by repeat (first | (with_reducible first | exact HB.out | apply below_alloc | apply pw_below_drewN | apply below_drew1 | refine below_set ?_ GE222.out) | exact HB.out))); (case aF => exact (fun k_ hk => ⟨Kd.fresh' (Kd.R_lt (by (with_reducible repeat (first | apply Kd.R_alloc | apply Kd.R_drewN | apply Kd.R_drew)); exact HO_7.out)) k_ hk, Kd.fresh' (Kd.R_lt (by (with_reducible repeat (first | apply Kd.R_alloc | apply Kd.R_drewN | apply Kd.R_drew)); exact HO_9.out)) k_ hk⟩)); (case aO => exact (by (with_reducible repeat (first | apply Kd.R_alloc | apply Kd.R_drewN | apply Kd.R_drew)); exact HO237.out)); (case aS => exact (below_size (by repeat (first | (with_reducible first | exact HB.out | apply below_alloc | apply pw_below_drewN | apply below_drew1 | refine below_set ?_ GE222.out) | exact HB.out)))); (case aL => have := LMc18.out; omega); intro v239 w33 ho hb hg hat; rw [← Ny238.out] at ho; have n0_ := Aside0.mk (Kd.R_after (ok := (fun k_ => some k_ ≠ (v229 : Value).ownBlock)) (by (with_reducible repeat (first | apply Kd.R_alloc | apply Kd.R_drewN | apply Kd.R_drew)); exact HO_7.out) hg hat); have n1_ := Aside0.mk (Kd.R_after (ok := (fun k_ => some k_ ≠ (v225 : Value).ownBlock)) (by (with_reducible repeat (first | apply Kd.R_alloc | apply Kd.R_drewN | apply Kd.R_drew)); exact HO_9.out) hg hat); have n2_ := Aside0.mk (blk_grown (g := gb222) (o := .cells #[.int .i64 a0_0, .slice A0_1 l0_1.length c0_1, .slice A0_2 l0_2.length c0_2, .slice A0_3 l0_3.length c0_3] 25 (0, 0)) (by (with_reducible repeat (first | refine blk_drewN ?_ _ | refine blk_drew ?_ | refine blk_alloc ?_ _)); exact BK222.out) hg (Kd.R_ne HO237.out BK222.out (by decide))); have n3_ := Aside0.mk (hb); have n4_ := Aside0.mk (ho); clear HO_7; clear HO_9; clear BK222; clear HB; clear HO237; have HO_7 := n0_; have HO_9 := n1_; have BK222 := n2_; have HB := n3_; have HO240 := n4_; clear n0_ n1_ n2_ n3_ n4_; clear ho hb hg hat; have hcz34_0 : w33.cell? ⟨gb222, 0, none⟩ = some (.int .i64 a0_0) := (blk_cell BK222.out 0).trans rfl; have hcz34_1 : w33.cell? ⟨gb222, 1, none⟩ = some (.slice A0_1 l0_1.length c0_1) := (blk_cell BK222.out 1).trans rfl; have hcz34_2 : w33.cell? ⟨gb222, 2, none⟩ = some (.slice A0_2 l0_2.length c0_2) := (blk_cell BK222.out 2).trans rfl; have hcz34_3 : w33.cell? ⟨gb222, 3, none⟩ = some (.slice A0_3 l0_3.length c0_3) := (blk_cell BK222.out 3).trans rfl; have hfz34_0 := blk_frozen BK222.out 0; have hfz34_1 := blk_frozen BK222.out 1; have hfz34_2 := blk_frozen BK222.out 2; have hfz34_3 := blk_frozen BK222.out 3; obtain ⟨Ao35, co35, eo35⟩ := Kd.R_slice HO240.out; subst eo35) | ((with_reducible refine gate_callee (f := 5) rfl ?_); refine goesL_ (some 51) rfl rfl Try.func5 (by kernel_rfl) rfl #[.agg #[.int .i64 a0_0, .slice A0_1 l0_1.length c0_1, .slice A0_2 l0_2.length c0_2, .slice A0_3 l0_3.length c0_3], .slice Ao35 y238.length co35] rfl (by (try simp only [List.map_toArray, List.map_cons, List.map_nil]); first | done | rfl | (simp only [List.length_drop, List.length_take]; rfl)) ?_; (with_reducible refine (theory_Cone.calls kj7 a0_0 _ _ l0_1 _ _ l0_2 _ _ l0_3 _ _ y238 t241 t244 _ ?side1 ?side2 ?side3 ?side4 ?side5 ?side6 ?side7 ?side8 A19.out).mono ?_); (case side1 => repeat (first | exact (Kd.C_below HR0_1.out HB.out) | (with_reducible refine Kd.C_alloc ?_ _) | (with_reducible refine Kd.C_drewN ?_ _) | (with_reducible refine Kd.C_drew ?_))); (case side2 => exact HC0_1.out); (case side3 => repeat (first | exact (Kd.C_below HR0_2.out HB.out) | (with_reducible refine Kd.C_alloc ?_ _) | (with_reducible refine Kd.C_drewN ?_ _) | (with_reducible refine Kd.C_drew ?_))); (case side4 => exact HC0_2.out); (case side5 => repeat (first | exact (Kd.C_below HR0_3.out HB.out) | (with_reducible refine Kd.C_alloc ?_ _) | (with_reducible refine Kd.C_drewN ?_ _) | (with_reducible refine Kd.C_drew ?_))); (case side6 => exact HC0_3.out); (case side7 => repeat (first | exact (Kd.R_reads' HO240.out).2.2 | (with_reducible refine Kd.C_alloc ?_ _) | (with_reducible refine Kd.C_drewN ?_ _) | (with_reducible refine Kd.C_drew ?_))); (case side8 => exact (Kd.R_reads' HO240.out).2.1); rintro e w36 ⟨v242, rfl, ho0, hb⟩; refine ⟨_, rfl, ?_⟩; have n0_ := Aside0.mk (Kd.R_elder' (by (with_reducible repeat (first | apply Kd.R_alloc | apply Kd.R_drewN | apply Kd.R_drew)); exact HO_7.out) (Kd.R_base ho0) hb); have n1_ := Aside0.mk (Kd.R_elder' (by (with_reducible repeat (first | apply Kd.R_alloc | apply Kd.R_drewN | apply Kd.R_drew)); exact HO_9.out) (Kd.R_base ho0) hb); have n2_ := Aside0.mk (Kd.R_elder' (by (with_reducible repeat (first | apply Kd.R_alloc | apply Kd.R_drewN | apply Kd.R_drew)); exact HO240.out) (Kd.R_base ho0) hb); have n3_ := Aside0.mk (Kd.R_lower (Kd.R_new' (Kd.R_new' (Kd.R_new' ho0 (Kd.R_lt (by (with_reducible repeat (first | apply Kd.R_alloc | apply Kd.R_drewN | apply Kd.R_drew)); exact HO_7.out))) (Kd.R_lt (by (with_reducible repeat (first | apply Kd.R_alloc | apply Kd.R_drewN | apply Kd.R_drew)); exact HO_9.out))) (Kd.R_lt (by (with_reducible repeat (first | apply Kd.R_alloc | apply Kd.R_drewN | apply Kd.R_drew)); exact HO240.out))) (below_size (by repeat (first | (with_reducible first | exact HB.out | apply below_alloc | apply pw_below_drewN | apply below_drew1 | refine below_set ?_ GE222.out) | exact HB.out)))); have n4_ := Aside0.mk (blk_below (g := gb222) (o := .cells #[.int .i64 a0_0, .slice A0_1 l0_1.length c0_1, .slice A0_2 l0_2.length c0_2, .slice A0_3 l0_3.length c0_3] 25 (0, 0)) (by (with_reducible repeat (first | refine blk_drewN ?_ _ | refine blk_drew ?_ | refine blk_alloc ?_ _)); exact BK222.out) hb); have n5_ := Aside0.mk (below_step (by repeat (first | (with_reducible first | exact HB.out | apply below_alloc | apply pw_below_drewN | apply below_drew1 | refine below_set ?_ GE222.out) | exact HB.out)) hb); clear HO_7; clear HO_9; clear HO240; clear BK222; clear HB; have HO_7 := n0_; have HO_9 := n1_; have HO240 := n2_; have HO243 := n3_; have BK222 := n4_; have HB := n5_; clear n0_ n1_ n2_ n3_ n4_ n5_; (try clear hb); (try clear hb2); (try clear hk); (try clear hi); (try clear ho0); have hcz37_0 : w36.cell? ⟨gb222, 0, none⟩ = some (.int .i64 a0_0) := (blk_cell BK222.out 0).trans rfl; have hcz37_1 : w36.cell? ⟨gb222, 1, none⟩ = some (.slice A0_1 l0_1.length c0_1) := (blk_cell BK222.out 1).trans rfl; have hcz37_2 : w36.cell? ⟨gb222, 2, none⟩ = some (.slice A0_2 l0_2.length c0_2) := (blk_cell BK222.out 2).trans rfl; have hcz37_3 : w36.cell? ⟨gb222, 3, none⟩ = some (.slice A0_3 l0_3.length c0_3) := (blk_cell BK222.out 3).trans rfl; have hfz37_0 := blk_frozen BK222.out 0; have hfz37_1 := blk_frozen BK222.out 1; have hfz37_2 := blk_frozen BK222.out 2; have hfz37_3 := blk_frozen BK222.out 3; obtain ⟨Ao38, co38, eo38⟩ := Kd.R_slice HO_7.out; subst eo38) | ((with_reducible refine gate_callee (f := 5) rfl ?_); refine goesL_ (some 57) rfl rfl Try.func5 (by kernel_rfl) rfl #[.agg #[.int .i64 a0_0, .slice A0_1 l0_1.length c0_1, .slice A0_2 l0_2.length c0_2, .slice A0_3 l0_3.length c0_3], .slice Ao38 t224.length co38] rfl (by (try simp only [List.map_toArray, List.map_cons, List.map_nil]); first | done | rfl | (simp only [List.length_drop, List.length_take]; rfl)) ?_; (with_reducible refine (theory_Cone.calls kj7 a0_0 _ _ l0_1 _ _ l0_2 _ _ l0_3 _ _ t224 t245 t248 _ ?side1 ?side2 ?side3 ?side4 ?side5 ?side6 ?side7 ?side8 A20.out).mono ?_); (case side1 => repeat (first | exact (Kd.C_below HR0_1.out HB.out) | (with_reducible refine Kd.C_alloc ?_ _) | (with_reducible refine Kd.C_drewN ?_ _) | (with_reducible refine Kd.C_drew ?_))); (case side2 => exact HC0_1.out); (case side3 => repeat (first | exact (Kd.C_below HR0_2.out HB.out) | (with_reducible refine Kd.C_alloc ?_ _) | (with_reducible refine Kd.C_drewN ?_ _) | (with_reducible refine Kd.C_drew ?_))); (case side4 => exact HC0_2.out); (case side5 => repeat (first | exact (Kd.C_below HR0_3.out HB.out) | (with_reducible refine Kd.C_alloc ?_ _) | (with_reducible refine Kd.C_drewN ?_ _) | (with_reducible refine Kd.C_drew ?_))); (case side6 => exact HC0_3.out); (case side7 => repeat (first | exact (Kd.R_reads' HO_7.out).2.2 | (with_reducible refine Kd.C_alloc ?_ _) | (with_reducible refine Kd.C_drewN ?_ _) | (with_reducible refine Kd.C_drew ?_))); (case side8 => exact (Kd.R_reads' HO_7.out).2.1); rintro e w39 ⟨v246, rfl, ho0, hb⟩; refine ⟨_, rfl, ?_⟩; have n0_ := Aside0.mk (Kd.R_elder' (by (with_reducible repeat (first | apply Kd.R_alloc | apply Kd.R_drewN | apply Kd.R_drew)); exact HO_7.out) (Kd.R_base ho0) hb); have n1_ := Aside0.mk (Kd.R_elder' (by (with_reducible repeat (first | apply Kd.R_alloc | apply Kd.R_drewN | apply Kd.R_drew)); exact HO_9.out) (Kd.R_base ho0) hb); have n2_ := Aside0.mk (Kd.R_elder' (by (with_reducible repeat (first | apply Kd.R_alloc | apply Kd.R_drewN | apply Kd.R_drew)); exact HO240.out) (Kd.R_base ho0) hb); have n3_ := Aside0.mk (Kd.R_elder' (by (with_reducible repeat (first | apply Kd.R_alloc | apply Kd.R_drewN | apply Kd.R_drew)); exact HO243.out) (Kd.R_base ho0) hb); have n4_ := Aside0.mk (Kd.R_lower (Kd.R_new' (Kd.R_new' (Kd.R_new' (Kd.R_new' ho0 (Kd.R_lt (by (with_reducible repeat (first | apply Kd.R_alloc | apply Kd.R_drewN | apply Kd.R_drew)); exact HO_7.out))) (Kd.R_lt (by (with_reducible repeat (first | apply Kd.R_alloc | apply Kd.R_drewN | apply Kd.R_drew)); exact HO_9.out))) (Kd.R_lt (by (with_reducible repeat (first | apply Kd.R_alloc | apply Kd.R_drewN | apply Kd.R_drew)); exact HO240.out))) (Kd.R_lt (by (with_reducible repeat (first | apply Kd.R_alloc | apply Kd.R_drewN | apply Kd.R_drew)); exact HO243.out))) (below_size (by repeat (first | (with_reducible first | exact HB.out | apply below_alloc | apply pw_below_drewN | apply below_drew1 | refine below_set ?_ GE222.out) | exact HB.out)))); have n5_ := Aside0.mk (blk_below (g := gb222) (o := .cells #[.int .i64 a0_0, .slice A0_1 l0_1.length c0_1, .slice A0_2 l0_2.length c0_2, .slice A0_3 l0_3.length c0_3] 25 (0, 0)) (by (with_reducible repeat (first | refine blk_drewN ?_ _ | refine blk_drew ?_ | refine blk_alloc ?_ _)); exact BK222.out) hb); have n6_ := Aside0.mk (below_step (by repeat (first | (with_reducible first | exact HB.out | apply below_alloc | apply pw_below_drewN | apply below_drew1 | refine below_set ?_ GE222.out) | exact HB.out)) hb); clear HO_7; clear HO_9; clear HO240; clear HO243; clear BK222; clear HB; have HO_7 := n0_; have HO_9 := n1_; have HO240 := n2_; have HO243 := n3_; have HO247 := n4_; have BK222 := n5_; have HB := n6_; clear n0_ n1_ n2_ n3_ n4_ n5_ n6_; (try clear hb); (try clear hb2); (try clear hk); (try clear hi); (try clear ho0); obtain ⟨Ao40, co40, eo40⟩ := Kd.R_slice HO247.out; subst eo40) | (go_at_call 6; (with_reducible refine (lexpriorplain_SameInts.calls kj7 _ _ t245 _ _ t224 true _ ?side1 ?side2 ?side3 ?side4 A23.out).mono ?_); (case side1 => repeat (first | exact (Kd.R_reads' HO247.out).2.2 | (with_reducible refine Kd.C_alloc ?_ _) | (with_reducible refine Kd.C_drewN ?_ _) | (with_reducible refine Kd.C_drew ?_))); (case side2 => exact (Kd.R_reads' HO247.out).2.1); (case side3 => repeat (first | exact (Kd.R_reads' HO_7.out).2.2 | (with_reducible refine Kd.C_alloc ?_ _) | (with_reducible refine Kd.C_drewN ?_ _) | (with_reducible refine Kd.C_drew ?_))); (case side4 => exact (Kd.R_reads' HO_7.out).2.1); rintro e w' ⟨rfl, ⟨nd, rfl⟩⟩; obtain ⟨Ao41, co41, eo41⟩ := Kd.R_slice HO_9.out; subst eo41) | (go_at_call 7; (with_reducible refine (lexpriorlaw12_both.calls kj7 _ _ t224 _ _ t228 t250 _ ?side1 ?side2 ?side3 ?side4 A25.out).mono ?_); (case side1 => repeat (first | exact (Kd.R_reads' HO_7.out).2.2 | (with_reducible refine Kd.C_alloc ?_ _) | (with_reducible refine Kd.C_drewN ?_ _) | (with_reducible refine Kd.C_drew ?_))); (case side2 => exact (Kd.R_reads' HO_7.out).2.1); (case side3 => repeat (first | exact (Kd.R_reads' HO_9.out).2.2 | (with_reducible refine Kd.C_alloc ?_ _) | (with_reducible refine Kd.C_drewN ?_ _) | (with_reducible refine Kd.C_drew ?_))); (case side4 => exact (Kd.R_reads' HO_9.out).2.1); rintro e w42 ⟨v251, rfl, ho0, hb⟩; have n0_ := Aside0.mk (Kd.R_elder' (by (with_reducible repeat (first | apply Kd.R_alloc | apply Kd.R_drewN | apply Kd.R_drew)); exact HO_7.out) (Kd.R_base ho0) hb); have n1_ := Aside0.mk (Kd.R_elder' (by (with_reducible repeat (first | apply Kd.R_alloc | apply Kd.R_drewN | apply Kd.R_drew)); exact HO_9.out) (Kd.R_base ho0) hb); have n2_ := Aside0.mk (Kd.R_elder' (by (with_reducible repeat (first | apply Kd.R_alloc | apply Kd.R_drewN | apply Kd.R_drew)); exact HO240.out) (Kd.R_base ho0) hb); have n3_ := Aside0.mk (Kd.R_elder' (by (with_reducible repeat (first | apply Kd.R_alloc | apply Kd.R_drewN | apply Kd.R_drew)); exact HO243.out) (Kd.R_base ho0) hb); have n4_ := Aside0.mk (Kd.R_elder' (by (with_reducible repeat (first | apply Kd.R_alloc | apply Kd.R_drewN | apply Kd.R_drew)); exact HO247.out) (Kd.R_base ho0) hb); have n5_ := Aside0.mk (Kd.R_lower (Kd.R_new' (Kd.R_new' (Kd.R_new' (Kd.R_new' (Kd.R_new' ho0 (Kd.R_lt (by (with_reducible repeat (first | apply Kd.R_alloc | apply Kd.R_drewN | apply Kd.R_drew)); exact HO_7.out))) (Kd.R_lt (by (with_reducible repeat (first | apply Kd.R_alloc | apply Kd.R_drewN | apply Kd.R_drew)); exact HO_9.out))) (Kd.R_lt (by (with_reducible repeat (first | apply Kd.R_alloc | apply Kd.R_drewN | apply Kd.R_drew)); exact HO240.out))) (Kd.R_lt (by (with_reducible repeat (first | apply Kd.R_alloc | apply Kd.R_drewN | apply Kd.R_drew)); exact HO243.out))) (Kd.R_lt (by (with_reducible repeat (first | apply Kd.R_alloc | apply Kd.R_drewN | apply Kd.R_drew)); exact HO247.out))) (below_size (by repeat (first | (with_reducible first | exact HB.out | apply below_alloc | apply pw_below_drewN | apply below_drew1 | refine below_set ?_ GE222.out) | exact HB.out)))); have n6_ := Aside0.mk (blk_below (g := gb222) (o := .cells #[.int .i64 a0_0, .slice A0_1 l0_1.length c0_1, .slice A0_2 l0_2.length c0_2, .slice A0_3 l0_3.length c0_3] 25 (0, 0)) (by (with_reducible repeat (first | refine blk_drewN ?_ _ | refine blk_drew ?_ | refine blk_alloc ?_ _)); exact BK222.out) hb); have n7_ := Aside0.mk (below_step (by repeat (first | (with_reducible first | exact HB.out | apply below_alloc | apply pw_below_drewN | apply below_drew1 | refine below_set ?_ GE222.out) | exact HB.out)) hb); clear HO_7; clear HO_9; clear HO240; clear HO243; clear HO247; clear BK222; clear HB; have HO_7 := n0_; have HO_9 := n1_; have HO240 := n2_; have HO243 := n3_; have HO247 := n4_; have HO252 := n5_; have BK222 := n6_; have HB := n7_; clear n0_ n1_ n2_ n3_ n4_ n5_ n6_ n7_; (try clear hb); (try clear hb2); (try clear hk); (try clear hi); (try clear ho0); obtain ⟨Ao43, co43, eo43⟩ := Kd.R_slice HO243.out; subst eo43; obtain ⟨Ao44, co44, eo44⟩ := Kd.R_slice HO252.out; subst eo44) | (go_at_call 6; (with_reducible refine (lexpriorplain_SameInts.calls kj7 _ _ t241 _ _ t250 true _ ?side1 ?side2 ?side3 ?side4 A26.out).mono ?_); (case side1 => repeat (first | exact (Kd.R_reads' HO243.out).2.2 | (with_reducible refine Kd.C_alloc ?_ _) | (with_reducible refine Kd.C_drewN ?_ _) | (with_reducible refine Kd.C_drew ?_))); (case side2 => exact (Kd.R_reads' HO243.out).2.1); (case side3 => repeat (first | exact (Kd.R_reads' HO252.out).2.2 | (with_reducible refine Kd.C_alloc ?_ _) | (with_reducible refine Kd.C_drewN ?_ _) | (with_reducible refine Kd.C_drew ?_))); (case side4 => exact (Kd.R_reads' HO252.out).2.1); rintro e w' ⟨rfl, ⟨nd, rfl⟩⟩; have hcz45_0 : w42.cell? ⟨gb222, 0, none⟩ = some (.int .i64 a0_0) := (blk_cell BK222.out 0).trans rfl; have hcz45_1 : w42.cell? ⟨gb222, 1, none⟩ = some (.slice A0_1 l0_1.length c0_1) := (blk_cell BK222.out 1).trans rfl; have hcz45_2 : w42.cell? ⟨gb222, 2, none⟩ = some (.slice A0_2 l0_2.length c0_2) := (blk_cell BK222.out 2).trans rfl; have hcz45_3 : w42.cell? ⟨gb222, 3, none⟩ = some (.slice A0_3 l0_3.length c0_3) := (blk_cell BK222.out 3).trans rfl; have hfz45_0 := blk_frozen BK222.out 0; have hfz45_1 := blk_frozen BK222.out 1; have hfz45_2 := blk_frozen BK222.out 2; have hfz45_3 := blk_frozen BK222.out 3) | ((with_reducible refine gate_dst (N := 82) rfl ?_); refine Kd.R_make Kd.bool _ 4 rfl (N := 82) rfl 33 _ _ rfl a0_0 rfl rfl Try.underlying33 (.bool false) 1 info4 rfl (by decide) (by omega) false (ok := fun _ => True) (okp := fun _ => True) rfl (fun _ hk => hk) trivial (of_decide_eq_true (by first | (with_reducible assumption) | assumption)) (Nat.le_trans (Nat.mul_le_mul_right _ (of_decide_eq_true (by first | (with_reducible assumption) | assumption) : a0_0.toNat ≤ 281474976710656)) (by omega)) (Below.refl _ _) (Nat.le_refl _) ?_; intro v255 w46 ho47 hb hg_ hnew_; clear hg_ hnew_; (first | rw [← Ny254.out] at ho47 | (simp only [Int.reduceToNat] at ho47; rw [← Ny254.out] at ho47)); have n0_ := Aside0.mk (Kd.R_below (by (with_reducible repeat (first | apply Kd.R_alloc | apply Kd.R_drewN | apply Kd.R_drew)); exact HO_7.out) hb); have n1_ := Aside0.mk (Kd.R_below (by (with_reducible repeat (first | apply Kd.R_alloc | apply Kd.R_drewN | apply Kd.R_drew)); exact HO_9.out) hb); have n2_ := Aside0.mk (Kd.R_below (by (with_reducible repeat (first | apply Kd.R_alloc | apply Kd.R_drewN | apply Kd.R_drew)); exact HO240.out) hb); have n3_ := Aside0.mk (Kd.R_below (by (with_reducible repeat (first | apply Kd.R_alloc | apply Kd.R_drewN | apply Kd.R_drew)); exact HO243.out) hb); have n4_ := Aside0.mk (Kd.R_below (by (with_reducible repeat (first | apply Kd.R_alloc | apply Kd.R_drewN | apply Kd.R_drew)); exact HO247.out) hb); have n5_ := Aside0.mk (Kd.R_below (by (with_reducible repeat (first | apply Kd.R_alloc | apply Kd.R_drewN | apply Kd.R_drew)); exact HO252.out) hb); have n6_ := Aside0.mk (Kd.R_lower ho47 (below_size (by repeat (first | (with_reducible first | exact HB.out | apply below_alloc | apply pw_below_drewN | apply below_drew1 | refine below_set ?_ GE222.out) | exact HB.out)))); have n7_ := Aside0.mk (blk_below (g := gb222) (o := .cells #[.int .i64 a0_0, .slice A0_1 l0_1.length c0_1, .slice A0_2 l0_2.length c0_2, .slice A0_3 l0_3.length c0_3] 25 (0, 0)) (by (with_reducible repeat (first | refine blk_drewN ?_ _ | refine blk_drew ?_ | refine blk_alloc ?_ _)); exact BK222.out) hb); have n8_ := Aside0.mk (below_step (by repeat (first | (with_reducible first | exact HB.out | apply below_alloc | apply pw_below_drewN | apply below_drew1 | refine below_set ?_ GE222.out) | exact HB.out)) hb); clear HO_7; clear HO_9; clear HO240; clear HO243; clear HO247; clear HO252; clear BK222; clear HB; have HO_7 := n0_; have HO_9 := n1_; have HO240 := n2_; have HO243 := n3_; have HO247 := n4_; have HO252 := n5_; have HO256 := n6_; have BK222 := n7_; have HB := n8_; clear n0_ n1_ n2_ n3_ n4_ n5_ n6_ n7_ n8_; clear hb ho47))
             go_loopg [17] kj7 (fun kq v17 w' => ∃ (x16_2 : List Bool) (x17_2 : Int), v17 = .int .i64 x17_2 ∧ Aside0 (lexpriorlaw12_TheoryCones.l0 kq l1 t224 x16_2 x17_2 a0_0 l0_1 l0_2 l0_3 = some r) ∧ Aside0 (kq ≤ kj7) ∧ Aside0 (Kd.R (Kd.int .i64) 3 w' w.heap.size (fun _ => True) (.slice Ao38 t224.length co38) t224) ∧ Aside0 (Kd.R Kd.bool 4 w' w.heap.size (fun _ => True) v255 x16_2) ∧ Aside0 (w'.heap[gb222]? = some (.cells #[.int .i64 a0_0, (.slice A0_1 l0_1.length c0_1), (.slice A0_2 l0_2.length c0_2), (.slice A0_3 l0_3.length c0_3)] 25 (0, 0))) ∧ Aside0 (Below w.heap.size w w'))
             case atStart => exact ⟨(y254), (0), (by first | rfl | (simp; done) | (simp [*]; done)), H', ⟨Nat.le_refl _⟩, ⟨by (with_reducible repeat (first | apply Kd.R_alloc | apply Kd.R_drewN | apply Kd.R_drew)); exact Kd.R_mono HO_7.out (fun _ hk => trivial)⟩, ⟨by (with_reducible repeat (first | apply Kd.R_alloc | apply Kd.R_drewN | apply Kd.R_drew)); exact HO256.out⟩, ⟨by (with_reducible repeat (first | refine blk_drewN ?_ _ | refine blk_drew ?_ | refine blk_alloc ?_ _)); exact BK222.out⟩, ⟨by repeat (first | (with_reducible first | exact HB.out | apply below_alloc | apply pw_below_drewN | apply below_drew1 | refine below_set ?_ GE222.out) | exact HB.out)⟩⟩
             case round =>
              clear H'
              obtain ⟨x16_2, x17_2, rfl, HA, HK2, HO_7, HO_16, BK222, HB⟩ := hrel
              cases gk with
              | zero => exact absurd HA.out (by simp [lexpriorlaw12_TheoryCones.l0])
              | succ k2 =>
               have H := HA.out
               clear HA
               simp only [lexpriorlaw12_TheoryCones.l0] at H
               by_cases c48 : x17_2 < (t224.length : Int)
               ·rw [if_pos c48] at H
                have c48b0 : decide (x17_2 < (t224.length : Int)) = true := decide_eq_true c48
                clear c48
                by_cases c49 : 0 ≤ x17_2
                ·rw [if_pos c49] at H
                 have c49b0 : decide (0 ≤ x17_2) = true := decide_eq_true c49
                 clear c49
                 by_cases c50 : 0 ≤ (rd t224 x17_2)
                 ·rw [if_pos c50] at H
                  have c50b0 : decide (0 ≤ (rd t224 x17_2)) = true := decide_eq_true c50
                  clear c50
                  by_cases c51 : (rd t224 x17_2) < (x16_2.length : Int)
                  ·rw [if_pos c51] at H
                   have c51b0 : decide ((rd t224 x17_2) < (x16_2.length : Int)) = true := decide_eq_true c51
                   clear c51
                   obtain ⟨y258, hy258⟩ : ∃ y_ : List Bool, y_ = (x16_2.set ((rd t224 x17_2) : Int).toNat true) := ⟨_, rfl⟩
                   replace H : (lexpriorlaw12_TheoryCones.l0 k2 l1 t224 y258 (wrap64 (x17_2 + 1)) a0_0 l0_1 l0_2 l0_3) = some r := by first | (rw [hy258]; with_reducible exact H) | (have H2_ := (Option.bind_some _ _).symm.trans H; rw [hy258]; with_reducible exact H2_) | (have H2_ := (Option.bind_some _ _).symm.trans H; with_reducible exact H2_) | with_reducible exact H | (rw [hy258]; exact H) | exact H
                   have Ny258 := Aside0.mk hy258
                   clear hy258
                   have H' := Aside0.mk H
                   clear H
                   have p257 : 0 ≤ (x17_2 : Int) := of_decide_eq_true (by assumption)
                   have q257 : x17_2 < (t224.length : Int) := of_decide_eq_true (by assumption)
                   obtain ⟨ad257, e257, hx257_0⟩ := Kd.at_int (Kd.R_reads' HO_7.out).2.2 x17_2 p257 q257
                   cases e257
                   replace p257 := eq_true p257
                   replace q257 := eq_true q257
                   have p52 : 0 ≤ ((rd t224 x17_2) : Int) := of_decide_eq_true (by assumption)
                   have q52 : ((rd t224 x17_2) : Int) < ((x16_2.length : Int) : Int) := of_decide_eq_true (by assumption)
                   obtain ⟨go52, co52, eo52, gb52, gl52, cl52, HG52⟩ := Kd.R_form HO_16.out (by omega)
                   (first | cases eo52 | (injection eo52 with ea_ en_ ec_; (first | subst ea_ | (injection ea_ with ea_; subst ea_)); subst ec_; clear en_))
                   have GB52 := Aside0.mk gb52
                   have GG52 := Aside0.mk HG52
                   clear gb52 gl52 HG52
                   obtain ⟨hx52_0, hf52_0⟩ := Kd.R_celln false HO_16.out ((rd t224 x17_2) : Int) p52 q52
                   replace p52 := eq_true p52
                   replace q52 := eq_true q52
                   have HP53 := Kd.R_putg HO_16.out ((rd t224 x17_2) : Int) true
                   go_wp2_with (first | ((with_reducible refine gate_store (t := 4) (p := 94) rfl ?_); refine store_event (t := 4) (p := 94) (v := ?vo_w54) (w1 := (wr.setCell ⟨go52, ((rd t224 x17_2) : Int).toNat, none⟩ (.bool true))) ?hg ?ho ?hn ?hr ?_; (case ho => rfl); (case hg => rfl); (case hn => rfl); (case hr => first | (go_simp; done) | (go_simp; rfl)); intro w54 hw; have hg : wr.grownBy w54 (some go52) := (by rw [hw]; exact HP53.2); have hp_ : Kd.R Kd.bool 4 w54 w.heap.size (fun _ => True) (.slice (some ⟨go52, 0, none⟩) x16_2.length co52) y258 := (by rw [hw, Ny258.out]; exact HP53.1); clear HP53; have n0_ := Aside0.mk (Kd.R_over' (v := (.slice (some ⟨go52, 0, none⟩) x16_2.length co52)) (HO_7.out) (Kd.R_typed HO_16.out) (by decide) hg); have n1_ := Aside0.mk (hp_); have n2_ := Aside0.mk (blk_grown (g := gb222) (o := .cells #[.int .i64 a0_0, .slice A0_1 l0_1.length c0_1, .slice A0_2 l0_2.length c0_2, .slice A0_3 l0_3.length c0_3] 25 (0, 0)) (BK222.out) hg (Kd.R_ne HO_16.out BK222.out (by decide))); have n3_ := Aside0.mk ((by rw [hw]; exact below_set (HB.out) GB52.out : Below w.heap.size w w54)); clear HO_7; clear HO_16; clear BK222; clear HB; have HO_7 := n0_; have HO_16 := n1_; have BK222 := n2_; have HB := n3_; clear n0_ n1_ n2_ n3_; clear hg hw hp_))
                   go_roundg k2
                   case measure => have := HJ7.out; have := HK2.out; omega
                   case rel => exact ⟨(y258), (wrap64 (x17_2 + 1)), (rfl), H', ⟨by have := HJ7.out; have := HK2.out; omega⟩, ⟨HO_7.out⟩, ⟨HO_16.out⟩, ⟨BK222.out⟩, ⟨HB.out⟩⟩
                  ·rw [if_neg c51] at H
                   exact absurd H (by simp)
                 ·rw [if_neg c50] at H
                  exact absurd H (by simp)
                ·rw [if_neg c49] at H
                 exact absurd H (by simp)
               ·rw [if_neg c48] at H
                have c48b0 : decide (x17_2 < (t224.length : Int)) = false := decide_eq_false c48
                clear c48
                have H' := Aside0.mk H
                clear H
                go_wp2
                go_loopg [18] k2 (fun kq v18 w' => ∃ (x18_3 : Int), v18 = .int .i64 x18_3 ∧ Aside0 (lexpriorlaw12_TheoryCones.l1 kq l1 x16_2 x18_3 a0_0 l0_1 l0_2 l0_3 = some r) ∧ Aside0 (kq ≤ k2) ∧ Aside0 (Kd.R Kd.bool 4 w' w.heap.size (fun _ => True) v255 x16_2) ∧ Aside0 (w'.heap[gb222]? = some (.cells #[.int .i64 a0_0, (.slice A0_1 l0_1.length c0_1), (.slice A0_2 l0_2.length c0_2), (.slice A0_3 l0_3.length c0_3)] 25 (0, 0))) ∧ Aside0 (Below w.heap.size w w'))
                case atStart => exact ⟨(0), (rfl), H', ⟨Nat.le_refl _⟩, ⟨HO_16.out⟩, ⟨BK222.out⟩, ⟨HB.out⟩⟩
                case round =>
                 clear H'
                 obtain ⟨x18_3, rfl, HA, HK3, HO_16, BK222, HB⟩ := hrel
                 cases gk with
                 | zero => exact absurd HA.out (by simp [lexpriorlaw12_TheoryCones.l1])
                 | succ k3 =>
                  have H := HA.out
                  clear HA
                  simp only [lexpriorlaw12_TheoryCones.l1] at H
                  by_cases c55 : x18_3 < (l1.length : Int)
                  ·rw [if_pos c55] at H
                   have c55b0 : decide (x18_3 < (l1.length : Int)) = true := decide_eq_true c55
                   clear c55
                   by_cases c56 : 0 ≤ x18_3
                   ·rw [if_pos c56] at H
                    have c56b0 : decide (0 ≤ x18_3) = true := decide_eq_true c56
                    clear c56
                    by_cases c57 : 0 ≤ (rd l1 x18_3)
                    ·rw [if_pos c57] at H
                     have c57b0 : decide (0 ≤ (rd l1 x18_3)) = true := decide_eq_true c57
                     clear c57
                     by_cases c58 : (rd l1 x18_3) < (x16_2.length : Int)
                     ·rw [if_pos c58] at H
                      have c58b0 : decide ((rd l1 x18_3) < (x16_2.length : Int)) = true := decide_eq_true c58
                      clear c58
                      obtain ⟨bq59, hbq59⟩ : ∃ b_ : Bool, b_ = (rdOf false x16_2 (rd l1 x18_3)) := ⟨_, rfl⟩
                      replace H : (if (bq59 = true) then (lexpriorlaw12_TheoryCones.l1 k3 l1 x16_2 (wrap64 (x18_3 + 1)) a0_0 l0_1 l0_2 l0_3) else (none)) = some r := by rw [← hbq59] at H; exact H
                      have Nbq59 := Aside0.mk hbq59
                      clear hbq59
                      by_cases c60 : (bq59 = true)
                      ·subst c60
                       have H1 : (lexpriorlaw12_TheoryCones.l1 k3 l1 x16_2 (wrap64 (x18_3 + 1)) a0_0 l0_1 l0_2 l0_3) = some r := by rw [if_pos rfl] at H; exact H
                       clear H
                       have H := H1
                       clear H1
                       have H' := Aside0.mk H
                       clear H
                       have p259 : 0 ≤ (x18_3 : Int) := of_decide_eq_true (by assumption)
                       have q259 : x18_3 < (l1.length : Int) := of_decide_eq_true (by assumption)
                       obtain ⟨ad259, e259, hx259_0⟩ := Kd.at_int HR1.out x18_3 p259 q259
                       cases e259
                       replace hx259_0 := (HB.out.cell (World.block_lt_of_cell? w _ hx259_0)).trans hx259_0
                       replace p259 := eq_true p259
                       replace q259 := eq_true q259
                       obtain ⟨Ao61, co61, eo61⟩ := Kd.R_slice HO_16.out
                       subst eo61
                       have p260 : 0 ≤ ((rd l1 x18_3) : Int) := of_decide_eq_true (by assumption)
                       have q260 : (rd l1 x18_3) < (x16_2.length : Int) := of_decide_eq_true (by assumption)
                       obtain ⟨ad260, e260, hx260_0⟩ := Kd.at_bool (Kd.R_reads' HO_16.out).2.2 (rd l1 x18_3) p260 q260
                       (try rw [← Nbq59.out] at hx260_0)
                       cases e260
                       replace p260 := eq_true p260
                       replace q260 := eq_true q260
                       go_wp2
                       go_roundg k3
                       case measure => have := HJ7.out; have := HK2.out; have := HK3.out; omega
                       case rel => exact ⟨(wrap64 (x18_3 + 1)), (rfl), H', ⟨by have := HJ7.out; have := HK2.out; have := HK3.out; omega⟩, ⟨HO_16.out⟩, ⟨BK222.out⟩, ⟨HB.out⟩⟩
                      ·replace c60 := Bool.eq_false_iff.mpr c60
                       subst c60
                       have H1 : (none) = some r := by rw [if_neg (show ¬ (false = true) by decide)] at H; exact H
                       clear H
                       have H := H1
                       clear H1
                       exact absurd H (by simp)
                     ·rw [if_neg c58] at H
                      exact absurd H (by simp)
                    ·rw [if_neg c57] at H
                     exact absurd H (by simp)
                   ·rw [if_neg c56] at H
                    exact absurd H (by simp)
                  ·rw [if_neg c55] at H
                   have c55b0 : decide (x18_3 < (l1.length : Int)) = false := decide_eq_false c55
                   clear c55
                   have H' := Aside0.mk H
                   clear H
                   go_wp2
                   go_loopg [19] k3 (fun kq v19 w' => ∃ (x19_4 : Int), v19 = .int .i64 x19_4 ∧ Aside0 (lexpriorlaw12_TheoryCones.l2 kq x16_2 x19_4 a0_0 l0_1 l0_2 l0_3 = some r) ∧ Aside0 (kq ≤ k3) ∧ Aside0 (Kd.R Kd.bool 4 w' w.heap.size (fun _ => True) v255 x16_2) ∧ Aside0 (w'.heap[gb222]? = some (.cells #[.int .i64 a0_0, (.slice A0_1 l0_1.length c0_1), (.slice A0_2 l0_2.length c0_2), (.slice A0_3 l0_3.length c0_3)] 25 (0, 0))) ∧ Aside0 (Below w.heap.size w w'))
                   case atStart => exact ⟨(0), (rfl), H', ⟨Nat.le_refl _⟩, ⟨HO_16.out⟩, ⟨BK222.out⟩, ⟨HB.out⟩⟩
                   case round =>
                    clear H'
                    obtain ⟨x19_4, rfl, HA, HK4, HO_16, BK222, HB⟩ := hrel
                    cases gk with
                    | zero => exact absurd HA.out (by simp [lexpriorlaw12_TheoryCones.l2])
                    | succ k4 =>
                     have H := HA.out
                     clear HA
                     simp only [lexpriorlaw12_TheoryCones.l2] at H
                     by_cases c62 : x19_4 < a0_0
                     ·rw [if_pos c62] at H
                      have c62b0 : decide (x19_4 < a0_0) = true := decide_eq_true c62
                      clear c62
                      have H' := Aside0.mk H
                      clear H
                      have hcz63_0 : wr.cell? ⟨gb222, 0, none⟩ = some (.int .i64 a0_0) := (blk_cell BK222.out 0).trans rfl
                      have hcz63_1 : wr.cell? ⟨gb222, 1, none⟩ = some (.slice A0_1 l0_1.length c0_1) := (blk_cell BK222.out 1).trans rfl
                      have hcz63_2 : wr.cell? ⟨gb222, 2, none⟩ = some (.slice A0_2 l0_2.length c0_2) := (blk_cell BK222.out 2).trans rfl
                      have hcz63_3 : wr.cell? ⟨gb222, 3, none⟩ = some (.slice A0_3 l0_3.length c0_3) := (blk_cell BK222.out 3).trans rfl
                      have hfz63_0 := blk_frozen BK222.out 0
                      have hfz63_1 := blk_frozen BK222.out 1
                      have hfz63_2 := blk_frozen BK222.out 2
                      have hfz63_3 := blk_frozen BK222.out 3
                      go_wp2
                      go_loopg [20] k4 (fun kq v20 w' => ∃ (x20_5 : Int), v20 = .int .i64 x20_5 ∧ Aside0 (lexpriorlaw12_TheoryCones.l3 kq x16_2 x19_4 x20_5 a0_0 l0_1 l0_2 l0_3 = some r) ∧ Aside0 (kq ≤ k4) ∧ Aside0 (Kd.R Kd.bool 4 w' w.heap.size (fun _ => True) v255 x16_2) ∧ Aside0 (w'.heap[gb222]? = some (.cells #[.int .i64 a0_0, (.slice A0_1 l0_1.length c0_1), (.slice A0_2 l0_2.length c0_2), (.slice A0_3 l0_3.length c0_3)] 25 (0, 0))) ∧ Aside0 (Below w.heap.size w w'))
                      case atStart => exact ⟨(0), (rfl), H', ⟨Nat.le_refl _⟩, ⟨HO_16.out⟩, ⟨BK222.out⟩, ⟨HB.out⟩⟩
                      case round =>
                       clear H'
                       obtain ⟨x20_5, rfl, HA, HK5, HO_16, BK222, HB⟩ := hrel
                       cases gk with
                       | zero => exact absurd HA.out (by simp [lexpriorlaw12_TheoryCones.l3])
                       | succ k5 =>
                        have H := HA.out
                        clear HA
                        simp only [lexpriorlaw12_TheoryCones.l3] at H
                        by_cases c64 : 0 ≤ x19_4
                        ·rw [if_pos c64] at H
                         have c64b0 : decide (0 ≤ x19_4) = true := decide_eq_true c64
                         clear c64
                         by_cases c65 : x19_4 < (l0_1.length : Int)
                         ·rw [if_pos c65] at H
                          have c65b0 : decide (x19_4 < (l0_1.length : Int)) = true := decide_eq_true c65
                          clear c65
                          by_cases c66 : x20_5 < ((rd_L1 l0_1 x19_4).length : Int)
                          ·rw [if_pos c66] at H
                           have c66b0 : decide (x20_5 < ((rd_L1 l0_1 x19_4).length : Int)) = true := decide_eq_true c66
                           clear c66
                           by_cases c67 : x19_4 < (x16_2.length : Int)
                           ·rw [if_pos c67] at H
                            have c67b0 : decide (x19_4 < (x16_2.length : Int)) = true := decide_eq_true c67
                            clear c67
                            obtain ⟨bq68, hbq68⟩ : ∃ b_ : Bool, b_ = (rdOf false x16_2 x19_4) := ⟨_, rfl⟩
                            replace H : (if bq68 = true then (if 0 ≤ x20_5 then (if 0 ≤ (rd (rd_L1 l0_1 x19_4) x20_5) then (if (rd (rd_L1 l0_1 x19_4) x20_5) < (x16_2.length : Int) then (if (rdOf false x16_2 (rd (rd_L1 l0_1 x19_4) x20_5) = true) then (lexpriorlaw12_TheoryCones.l3 k5 x16_2 x19_4 (wrap64 (x20_5 + 1)) a0_0 l0_1 l0_2 l0_3) else (none)) else (none)) else (none)) else (none)) else (lexpriorlaw12_TheoryCones.l3 k5 x16_2 x19_4 (wrap64 (x20_5 + 1)) a0_0 l0_1 l0_2 l0_3)) = some r := by rw [← hbq68] at H; exact H
                            have Nbq68 := Aside0.mk hbq68
                            clear hbq68
                            by_cases c69 : bq68 = true
                            ·subst c69
                             have H1 : (if 0 ≤ x20_5 then (if 0 ≤ (rd (rd_L1 l0_1 x19_4) x20_5) then (if (rd (rd_L1 l0_1 x19_4) x20_5) < (x16_2.length : Int) then (if (rdOf false x16_2 (rd (rd_L1 l0_1 x19_4) x20_5) = true) then (lexpriorlaw12_TheoryCones.l3 k5 x16_2 x19_4 (wrap64 (x20_5 + 1)) a0_0 l0_1 l0_2 l0_3) else (none)) else (none)) else (none)) else (none)) = some r := by rw [if_pos rfl] at H; exact H
                             clear H
                             have H := H1
                             clear H1
                             by_cases c70 : 0 ≤ x20_5
                             ·rw [if_pos c70] at H
                              have c70b0 : decide (0 ≤ x20_5) = true := decide_eq_true c70
                              clear c70
                              by_cases c71 : 0 ≤ (rd (rd_L1 l0_1 x19_4) x20_5)
                              ·rw [if_pos c71] at H
                               have c71b0 : decide (0 ≤ (rd (rd_L1 l0_1 x19_4) x20_5)) = true := decide_eq_true c71
                               clear c71
                               by_cases c72 : (rd (rd_L1 l0_1 x19_4) x20_5) < (x16_2.length : Int)
                               ·rw [if_pos c72] at H
                                have c72b0 : decide ((rd (rd_L1 l0_1 x19_4) x20_5) < (x16_2.length : Int)) = true := decide_eq_true c72
                                clear c72
                                obtain ⟨bq73, hbq73⟩ : ∃ b_ : Bool, b_ = (rdOf false x16_2 (rd (rd_L1 l0_1 x19_4) x20_5)) := ⟨_, rfl⟩
                                replace H : (if (bq73 = true) then (lexpriorlaw12_TheoryCones.l3 k5 x16_2 x19_4 (wrap64 (x20_5 + 1)) a0_0 l0_1 l0_2 l0_3) else (none)) = some r := by rw [← hbq73] at H; exact H
                                have Nbq73 := Aside0.mk hbq73
                                clear hbq73
                                by_cases c74 : (bq73 = true)
                                ·subst c74
                                 have H1 : (lexpriorlaw12_TheoryCones.l3 k5 x16_2 x19_4 (wrap64 (x20_5 + 1)) a0_0 l0_1 l0_2 l0_3) = some r := by rw [if_pos rfl] at H; exact H
                                 clear H
                                 have H := H1
                                 clear H1
                                 have H' := Aside0.mk H
                                 clear H
                                 have hcz75_0 : wr.cell? ⟨gb222, 0, none⟩ = some (.int .i64 a0_0) := (blk_cell BK222.out 0).trans rfl
                                 have hcz75_1 : wr.cell? ⟨gb222, 1, none⟩ = some (.slice A0_1 l0_1.length c0_1) := (blk_cell BK222.out 1).trans rfl
                                 have hcz75_2 : wr.cell? ⟨gb222, 2, none⟩ = some (.slice A0_2 l0_2.length c0_2) := (blk_cell BK222.out 2).trans rfl
                                 have hcz75_3 : wr.cell? ⟨gb222, 3, none⟩ = some (.slice A0_3 l0_3.length c0_3) := (blk_cell BK222.out 3).trans rfl
                                 have hfz75_0 := blk_frozen BK222.out 0
                                 have hfz75_1 := blk_frozen BK222.out 1
                                 have hfz75_2 := blk_frozen BK222.out 2
                                 have hfz75_3 := blk_frozen BK222.out 3
                                 have p261 : 0 ≤ (x19_4 : Int) := of_decide_eq_true (by assumption)
                                 have q261 : x19_4 < (l0_1.length : Int) := of_decide_eq_true (by assumption)
                                 obtain ⟨ad261, A261_0, c261_0, e261, hx261_0, hl261_0, hi261_0⟩ := at_L1 HR0_1.out x19_4 p261 q261
                                 cases e261
                                 replace hx261_0 := (HB.out.cell (World.block_lt_of_cell? w _ hx261_0)).trans hx261_0
                                 have HR261_0 := Aside0.mk hi261_0
                                 have HC261_0 := Aside0.mk hl261_0
                                 clear hi261_0 hl261_0
                                 replace p261 := eq_true p261
                                 replace q261 := eq_true q261
                                 obtain ⟨Ao76, co76, eo76⟩ := Kd.R_slice HO_16.out
                                 subst eo76
                                 have p262 : 0 ≤ (x19_4 : Int) := of_decide_eq_true (by assumption)
                                 have q262 : x19_4 < (x16_2.length : Int) := of_decide_eq_true (by assumption)
                                 obtain ⟨ad262, e262, hx262_0⟩ := Kd.at_bool (Kd.R_reads' HO_16.out).2.2 x19_4 p262 q262
                                 (try rw [← Nbq68.out] at hx262_0)
                                 (try rw [← Nbq73.out] at hx262_0)
                                 cases e262
                                 replace p262 := eq_true p262
                                 replace q262 := eq_true q262
                                 have p263 : 0 ≤ (x19_4 : Int) := of_decide_eq_true (by assumption)
                                 have q263 : x19_4 < (l0_1.length : Int) := of_decide_eq_true (by assumption)
                                 obtain ⟨ad263, A263_0, c263_0, e263, hx263_0, hl263_0, hi263_0⟩ := at_L1 HR0_1.out x19_4 p263 q263
                                 obtain rfl : ad261 = ad263 := (by injection e263)
                                 replace hx263_0 := (HB.out.cell (World.block_lt_of_cell? w _ hx263_0)).trans hx263_0
                                 have HR263_0 := Aside0.mk hi263_0
                                 have HC263_0 := Aside0.mk hl263_0
                                 clear hi263_0 hl263_0
                                 replace p263 := eq_true p263
                                 replace q263 := eq_true q263
                                 have ea_ := Option.some.inj (hx261_0.symm.trans hx263_0)
                                 injection ea_ with ea_ en_ ec_
                                 subst ea_
                                 subst ec_
                                 clear en_
                                 have p264 : 0 ≤ (x20_5 : Int) := of_decide_eq_true (by assumption)
                                 have q264 : x20_5 < ((rd_L1 l0_1 x19_4).length : Int) := of_decide_eq_true (by assumption)
                                 obtain ⟨ad264, e264, hx264_0⟩ := Kd.at_int HR263_0.out x20_5 p264 q264
                                 cases e264
                                 replace hx264_0 := (HB.out.cell (World.block_lt_of_cell? w _ hx264_0)).trans hx264_0
                                 replace p264 := eq_true p264
                                 replace q264 := eq_true q264
                                 have p265 : 0 ≤ ((rd (rd_L1 l0_1 x19_4) x20_5) : Int) := of_decide_eq_true (by assumption)
                                 have q265 : (rd (rd_L1 l0_1 x19_4) x20_5) < (x16_2.length : Int) := of_decide_eq_true (by assumption)
                                 obtain ⟨ad265, e265, hx265_0⟩ := Kd.at_bool (Kd.R_reads' HO_16.out).2.2 (rd (rd_L1 l0_1 x19_4) x20_5) p265 q265
                                 (try rw [← Nbq68.out] at hx265_0)
                                 (try rw [← Nbq73.out] at hx265_0)
                                 obtain rfl : ad262 = ad265 := (by injection e265)
                                 replace p265 := eq_true p265
                                 replace q265 := eq_true q265
                                 go_wp2
                                 go_roundg k5
                                 case measure => have := HJ7.out; have := HK2.out; have := HK3.out; have := HK4.out; have := HK5.out; omega
                                 case rel => exact ⟨(wrap64 (x20_5 + 1)), (rfl), H', ⟨by have := HJ7.out; have := HK2.out; have := HK3.out; have := HK4.out; have := HK5.out; omega⟩, ⟨HO_16.out⟩, ⟨BK222.out⟩, ⟨HB.out⟩⟩
                                ·replace c74 := Bool.eq_false_iff.mpr c74
                                 subst c74
                                 have H1 : (none) = some r := by rw [if_neg (show ¬ (false = true) by decide)] at H; exact H
                                 clear H
                                 have H := H1
                                 clear H1
                                 exact absurd H (by simp)
                               ·rw [if_neg c72] at H
                                exact absurd H (by simp)
                              ·rw [if_neg c71] at H
                               exact absurd H (by simp)
                             ·rw [if_neg c70] at H
                              exact absurd H (by simp)
                            ·replace c69 := Bool.eq_false_iff.mpr c69
                             subst c69
                             have H1 : (lexpriorlaw12_TheoryCones.l3 k5 x16_2 x19_4 (wrap64 (x20_5 + 1)) a0_0 l0_1 l0_2 l0_3) = some r := by rw [if_neg (show ¬ (false = true) by decide)] at H; exact H
                             clear H
                             have H := H1
                             clear H1
                             have H' := Aside0.mk H
                             clear H
                             have hcz77_0 : wr.cell? ⟨gb222, 0, none⟩ = some (.int .i64 a0_0) := (blk_cell BK222.out 0).trans rfl
                             have hcz77_1 : wr.cell? ⟨gb222, 1, none⟩ = some (.slice A0_1 l0_1.length c0_1) := (blk_cell BK222.out 1).trans rfl
                             have hcz77_2 : wr.cell? ⟨gb222, 2, none⟩ = some (.slice A0_2 l0_2.length c0_2) := (blk_cell BK222.out 2).trans rfl
                             have hcz77_3 : wr.cell? ⟨gb222, 3, none⟩ = some (.slice A0_3 l0_3.length c0_3) := (blk_cell BK222.out 3).trans rfl
                             have hfz77_0 := blk_frozen BK222.out 0
                             have hfz77_1 := blk_frozen BK222.out 1
                             have hfz77_2 := blk_frozen BK222.out 2
                             have hfz77_3 := blk_frozen BK222.out 3
                             have p261 : 0 ≤ (x19_4 : Int) := of_decide_eq_true (by assumption)
                             have q261 : x19_4 < (l0_1.length : Int) := of_decide_eq_true (by assumption)
                             obtain ⟨ad261, A261_0, c261_0, e261, hx261_0, hl261_0, hi261_0⟩ := at_L1 HR0_1.out x19_4 p261 q261
                             cases e261
                             replace hx261_0 := (HB.out.cell (World.block_lt_of_cell? w _ hx261_0)).trans hx261_0
                             have HR261_0 := Aside0.mk hi261_0
                             have HC261_0 := Aside0.mk hl261_0
                             clear hi261_0 hl261_0
                             replace p261 := eq_true p261
                             replace q261 := eq_true q261
                             obtain ⟨Ao78, co78, eo78⟩ := Kd.R_slice HO_16.out
                             subst eo78
                             have p262 : 0 ≤ (x19_4 : Int) := of_decide_eq_true (by assumption)
                             have q262 : x19_4 < (x16_2.length : Int) := of_decide_eq_true (by assumption)
                             obtain ⟨ad262, e262, hx262_0⟩ := Kd.at_bool (Kd.R_reads' HO_16.out).2.2 x19_4 p262 q262
                             (try rw [← Nbq68.out] at hx262_0)
                             cases e262
                             replace p262 := eq_true p262
                             replace q262 := eq_true q262
                             go_wp2
                             go_roundg k5
                             case measure => have := HJ7.out; have := HK2.out; have := HK3.out; have := HK4.out; have := HK5.out; omega
                             case rel => exact ⟨(wrap64 (x20_5 + 1)), (rfl), H', ⟨by have := HJ7.out; have := HK2.out; have := HK3.out; have := HK4.out; have := HK5.out; omega⟩, ⟨HO_16.out⟩, ⟨BK222.out⟩, ⟨HB.out⟩⟩
                           ·rw [if_neg c67] at H
                            exact absurd H (by simp)
                          ·rw [if_neg c66] at H
                           have c66b0 : decide (x20_5 < ((rd_L1 l0_1 x19_4).length : Int)) = false := decide_eq_false c66
                           clear c66
                           have H' := Aside0.mk H
                           clear H
                           have hcz79_0 : wr.cell? ⟨gb222, 0, none⟩ = some (.int .i64 a0_0) := (blk_cell BK222.out 0).trans rfl
                           have hcz79_1 : wr.cell? ⟨gb222, 1, none⟩ = some (.slice A0_1 l0_1.length c0_1) := (blk_cell BK222.out 1).trans rfl
                           have hcz79_2 : wr.cell? ⟨gb222, 2, none⟩ = some (.slice A0_2 l0_2.length c0_2) := (blk_cell BK222.out 2).trans rfl
                           have hcz79_3 : wr.cell? ⟨gb222, 3, none⟩ = some (.slice A0_3 l0_3.length c0_3) := (blk_cell BK222.out 3).trans rfl
                           have hfz79_0 := blk_frozen BK222.out 0
                           have hfz79_1 := blk_frozen BK222.out 1
                           have hfz79_2 := blk_frozen BK222.out 2
                           have hfz79_3 := blk_frozen BK222.out 3
                           have p261 : 0 ≤ (x19_4 : Int) := of_decide_eq_true (by assumption)
                           have q261 : x19_4 < (l0_1.length : Int) := of_decide_eq_true (by assumption)
                           obtain ⟨ad261, A261_0, c261_0, e261, hx261_0, hl261_0, hi261_0⟩ := at_L1 HR0_1.out x19_4 p261 q261
                           cases e261
                           replace hx261_0 := (HB.out.cell (World.block_lt_of_cell? w _ hx261_0)).trans hx261_0
                           have HR261_0 := Aside0.mk hi261_0
                           have HC261_0 := Aside0.mk hl261_0
                           clear hi261_0 hl261_0
                           replace p261 := eq_true p261
                           replace q261 := eq_true q261
                           go_wp2
                           go_roundg k5
                           case measure => have := HJ7.out; have := HK2.out; have := HK3.out; have := HK4.out; have := HK5.out; omega
                           case rel => exact ⟨(wrap64 (x19_4 + 1)), (rfl), H', ⟨by have := HJ7.out; have := HK2.out; have := HK3.out; have := HK4.out; have := HK5.out; omega⟩, ⟨HO_16.out⟩, ⟨BK222.out⟩, ⟨HB.out⟩⟩
                         ·rw [if_neg c65] at H
                          exact absurd H (by simp)
                        ·rw [if_neg c64] at H
                         exact absurd H (by simp)
                     ·rw [if_neg c62] at H
                      have c62b0 : decide (x19_4 < a0_0) = false := decide_eq_false c62
                      clear c62
                      have H' := Aside0.mk H
                      clear H
                      have hcz80_0 : wr.cell? ⟨gb222, 0, none⟩ = some (.int .i64 a0_0) := (blk_cell BK222.out 0).trans rfl
                      have hcz80_1 : wr.cell? ⟨gb222, 1, none⟩ = some (.slice A0_1 l0_1.length c0_1) := (blk_cell BK222.out 1).trans rfl
                      have hcz80_2 : wr.cell? ⟨gb222, 2, none⟩ = some (.slice A0_2 l0_2.length c0_2) := (blk_cell BK222.out 2).trans rfl
                      have hcz80_3 : wr.cell? ⟨gb222, 3, none⟩ = some (.slice A0_3 l0_3.length c0_3) := (blk_cell BK222.out 3).trans rfl
                      have hfz80_0 := blk_frozen BK222.out 0
                      have hfz80_1 := blk_frozen BK222.out 1
                      have hfz80_2 := blk_frozen BK222.out 2
                      have hfz80_3 := blk_frozen BK222.out 3
                      go_wp2
                      go_loopg [21] k4 (fun kq v21 w' => ∃ (x21_5 : Int), v21 = .int .i64 x21_5 ∧ Aside0 (lexpriorlaw12_TheoryCones.l4 kq x16_2 x21_5 a0_0 l0_1 l0_2 l0_3 = some r) ∧ Aside0 (kq ≤ k4) ∧ Aside0 (Kd.R Kd.bool 4 w' w.heap.size (fun _ => True) v255 x16_2) ∧ Aside0 (w'.heap[gb222]? = some (.cells #[.int .i64 a0_0, (.slice A0_1 l0_1.length c0_1), (.slice A0_2 l0_2.length c0_2), (.slice A0_3 l0_3.length c0_3)] 25 (0, 0))) ∧ Aside0 (Below w.heap.size w w'))
                      case atStart => exact ⟨(0), (rfl), H', ⟨Nat.le_refl _⟩, ⟨HO_16.out⟩, ⟨BK222.out⟩, ⟨HB.out⟩⟩
                      case round =>
                       clear H'
                       obtain ⟨x21_5, rfl, HA, HK5, HO_16, BK222, HB⟩ := hrel
                       cases gk with
                       | zero => exact absurd HA.out (by simp [lexpriorlaw12_TheoryCones.l4])
                       | succ k5 =>
                        have H := HA.out
                        clear HA
                        simp only [lexpriorlaw12_TheoryCones.l4] at H
                        by_cases c81 : x21_5 < (l0_2.length : Int)
                        ·rw [if_pos c81] at H
                         have c81b0 : decide (x21_5 < (l0_2.length : Int)) = true := decide_eq_true c81
                         clear c81
                         have H' := Aside0.mk H
                         clear H
                         have hcz82_0 : wr.cell? ⟨gb222, 0, none⟩ = some (.int .i64 a0_0) := (blk_cell BK222.out 0).trans rfl
                         have hcz82_1 : wr.cell? ⟨gb222, 1, none⟩ = some (.slice A0_1 l0_1.length c0_1) := (blk_cell BK222.out 1).trans rfl
                         have hcz82_2 : wr.cell? ⟨gb222, 2, none⟩ = some (.slice A0_2 l0_2.length c0_2) := (blk_cell BK222.out 2).trans rfl
                         have hcz82_3 : wr.cell? ⟨gb222, 3, none⟩ = some (.slice A0_3 l0_3.length c0_3) := (blk_cell BK222.out 3).trans rfl
                         have hfz82_0 := blk_frozen BK222.out 0
                         have hfz82_1 := blk_frozen BK222.out 1
                         have hfz82_2 := blk_frozen BK222.out 2
                         have hfz82_3 := blk_frozen BK222.out 3
                         go_wp2
                         go_loopg [22] k5 (fun kq v22 w' => ∃ (x22_6 : Int), v22 = .int .i64 x22_6 ∧ Aside0 (lexpriorlaw12_TheoryCones.l5 kq x16_2 x21_5 x22_6 a0_0 l0_1 l0_2 l0_3 = some r) ∧ Aside0 (kq ≤ k5) ∧ Aside0 (Kd.R Kd.bool 4 w' w.heap.size (fun _ => True) v255 x16_2) ∧ Aside0 (w'.heap[gb222]? = some (.cells #[.int .i64 a0_0, (.slice A0_1 l0_1.length c0_1), (.slice A0_2 l0_2.length c0_2), (.slice A0_3 l0_3.length c0_3)] 25 (0, 0))) ∧ Aside0 (Below w.heap.size w w'))
                         case atStart => exact ⟨(0), (rfl), H', ⟨Nat.le_refl _⟩, ⟨HO_16.out⟩, ⟨BK222.out⟩, ⟨HB.out⟩⟩
                         case round =>
                          clear H'
                          obtain ⟨x22_6, rfl, HA, HK6, HO_16, BK222, HB⟩ := hrel
                          cases gk with
                          | zero => exact absurd HA.out (by simp [lexpriorlaw12_TheoryCones.l5])
                          | succ k6 =>
                           have H := HA.out
                           clear HA
                           simp only [lexpriorlaw12_TheoryCones.l5] at H
                           by_cases c83 : 0 ≤ x21_5
                           ·rw [if_pos c83] at H
                            have c83b0 : decide (0 ≤ x21_5) = true := decide_eq_true c83
                            clear c83
                            by_cases c84 : x21_5 < (l0_2.length : Int)
                            ·rw [if_pos c84] at H
                             have c84b0 : decide (x21_5 < (l0_2.length : Int)) = true := decide_eq_true c84
                             clear c84
                             by_cases c85 : x22_6 < (((rd_T36 l0_2 x21_5).f2).length : Int)
                             ·rw [if_pos c85] at H
                              have c85b0 : decide (x22_6 < (((rd_T36 l0_2 x21_5).f2).length : Int)) = true := decide_eq_true c85
                              clear c85
                              by_cases c86 : 0 ≤ x22_6
                              ·rw [if_pos c86] at H
                               have c86b0 : decide (0 ≤ x22_6) = true := decide_eq_true c86
                               clear c86
                               by_cases c87 : 0 ≤ (rd ((rd_T36 l0_2 x21_5).f2) x22_6)
                               ·rw [if_pos c87] at H
                                have c87b0 : decide (0 ≤ (rd ((rd_T36 l0_2 x21_5).f2) x22_6)) = true := decide_eq_true c87
                                clear c87
                                by_cases c88 : (rd ((rd_T36 l0_2 x21_5).f2) x22_6) < (x16_2.length : Int)
                                ·rw [if_pos c88] at H
                                 have c88b0 : decide ((rd ((rd_T36 l0_2 x21_5).f2) x22_6) < (x16_2.length : Int)) = true := decide_eq_true c88
                                 clear c88
                                 obtain ⟨bq89, hbq89⟩ : ∃ b_ : Bool, b_ = (rdOf false x16_2 (rd ((rd_T36 l0_2 x21_5).f2) x22_6)) := ⟨_, rfl⟩
                                 replace H : (if bq89 = true then (if 0 ≤ ((rd_T36 l0_2 x21_5).f1) then (if ((rd_T36 l0_2 x21_5).f1) < (x16_2.length : Int) then (if (rdOf false x16_2 ((rd_T36 l0_2 x21_5).f1) = true) then (lexpriorlaw12_TheoryCones.l5 k6 x16_2 x21_5 (wrap64 (x22_6 + 1)) a0_0 l0_1 l0_2 l0_3) else (none)) else (none)) else (none)) else (lexpriorlaw12_TheoryCones.l5 k6 x16_2 x21_5 (wrap64 (x22_6 + 1)) a0_0 l0_1 l0_2 l0_3)) = some r := by rw [← hbq89] at H; exact H
                                 have Nbq89 := Aside0.mk hbq89
                                 clear hbq89
                                 by_cases c90 : bq89 = true
                                 ·subst c90
                                  have H1 : (if 0 ≤ ((rd_T36 l0_2 x21_5).f1) then (if ((rd_T36 l0_2 x21_5).f1) < (x16_2.length : Int) then (if (rdOf false x16_2 ((rd_T36 l0_2 x21_5).f1) = true) then (lexpriorlaw12_TheoryCones.l5 k6 x16_2 x21_5 (wrap64 (x22_6 + 1)) a0_0 l0_1 l0_2 l0_3) else (none)) else (none)) else (none)) = some r := by rw [if_pos rfl] at H; exact H
                                  clear H
                                  have H := H1
                                  clear H1
                                  by_cases c91 : 0 ≤ ((rd_T36 l0_2 x21_5).f1)
                                  ·rw [if_pos c91] at H
                                   have c91b0 : decide (0 ≤ ((rd_T36 l0_2 x21_5).f1)) = true := decide_eq_true c91
                                   clear c91
                                   by_cases c92 : ((rd_T36 l0_2 x21_5).f1) < (x16_2.length : Int)
                                   ·rw [if_pos c92] at H
                                    have c92b0 : decide (((rd_T36 l0_2 x21_5).f1) < (x16_2.length : Int)) = true := decide_eq_true c92
                                    clear c92
                                    obtain ⟨bq93, hbq93⟩ : ∃ b_ : Bool, b_ = (rdOf false x16_2 ((rd_T36 l0_2 x21_5).f1)) := ⟨_, rfl⟩
                                    replace H : (if (bq93 = true) then (lexpriorlaw12_TheoryCones.l5 k6 x16_2 x21_5 (wrap64 (x22_6 + 1)) a0_0 l0_1 l0_2 l0_3) else (none)) = some r := by rw [← hbq93] at H; exact H
                                    have Nbq93 := Aside0.mk hbq93
                                    clear hbq93
                                    by_cases c94 : (bq93 = true)
                                    ·subst c94
                                     have H1 : (lexpriorlaw12_TheoryCones.l5 k6 x16_2 x21_5 (wrap64 (x22_6 + 1)) a0_0 l0_1 l0_2 l0_3) = some r := by rw [if_pos rfl] at H; exact H
                                     clear H
                                     have H := H1
                                     clear H1
                                     have H' := Aside0.mk H
                                     clear H
                                     have hcz95_0 : wr.cell? ⟨gb222, 0, none⟩ = some (.int .i64 a0_0) := (blk_cell BK222.out 0).trans rfl
                                     have hcz95_1 : wr.cell? ⟨gb222, 1, none⟩ = some (.slice A0_1 l0_1.length c0_1) := (blk_cell BK222.out 1).trans rfl
                                     have hcz95_2 : wr.cell? ⟨gb222, 2, none⟩ = some (.slice A0_2 l0_2.length c0_2) := (blk_cell BK222.out 2).trans rfl
                                     have hcz95_3 : wr.cell? ⟨gb222, 3, none⟩ = some (.slice A0_3 l0_3.length c0_3) := (blk_cell BK222.out 3).trans rfl
                                     have hfz95_0 := blk_frozen BK222.out 0
                                     have hfz95_1 := blk_frozen BK222.out 1
                                     have hfz95_2 := blk_frozen BK222.out 2
                                     have hfz95_3 := blk_frozen BK222.out 3
                                     have p266 : 0 ≤ (x21_5 : Int) := of_decide_eq_true (by assumption)
                                     have q266 : x21_5 < (l0_2.length : Int) := of_decide_eq_true (by assumption)
                                     obtain ⟨ad266, A266_2, c266_2, e266, hx266_0, hx266_1, hx266_2, hl266_2, hi266_2⟩ := at_T36 HR0_2.out x21_5 p266 q266
                                     cases e266
                                     replace hx266_0 := (HB.out.cell (World.block_lt_of_cell? w _ hx266_0)).trans hx266_0
                                     replace hx266_1 := (HB.out.cell (World.block_lt_of_cell? w _ hx266_1)).trans hx266_1
                                     replace hx266_2 := (HB.out.cell (World.block_lt_of_cell? w _ hx266_2)).trans hx266_2
                                     have HR266_2 := Aside0.mk hi266_2
                                     have HC266_2 := Aside0.mk hl266_2
                                     clear hi266_2 hl266_2
                                     replace p266 := eq_true p266
                                     replace q266 := eq_true q266
                                     have p267 : 0 ≤ (x21_5 : Int) := of_decide_eq_true (by assumption)
                                     have q267 : x21_5 < (l0_2.length : Int) := of_decide_eq_true (by assumption)
                                     obtain ⟨ad267, A267_2, c267_2, e267, hx267_0, hx267_1, hx267_2, hl267_2, hi267_2⟩ := at_T36 HR0_2.out x21_5 p267 q267
                                     obtain rfl : ad266 = ad267 := (by injection e267)
                                     replace hx267_0 := (HB.out.cell (World.block_lt_of_cell? w _ hx267_0)).trans hx267_0
                                     replace hx267_1 := (HB.out.cell (World.block_lt_of_cell? w _ hx267_1)).trans hx267_1
                                     replace hx267_2 := (HB.out.cell (World.block_lt_of_cell? w _ hx267_2)).trans hx267_2
                                     have HR267_2 := Aside0.mk hi267_2
                                     have HC267_2 := Aside0.mk hl267_2
                                     clear hi267_2 hl267_2
                                     replace p267 := eq_true p267
                                     replace q267 := eq_true q267
                                     have ea_ := Option.some.inj (hx266_2.symm.trans hx267_2)
                                     injection ea_ with ea_ en_ ec_
                                     subst ea_
                                     subst ec_
                                     clear en_
                                     have p268 : 0 ≤ (x22_6 : Int) := of_decide_eq_true (by assumption)
                                     have q268 : x22_6 < (((rd_T36 l0_2 x21_5).f2).length : Int) := of_decide_eq_true (by assumption)
                                     obtain ⟨ad268, e268, hx268_0⟩ := Kd.at_int HR267_2.out x22_6 p268 q268
                                     cases e268
                                     replace hx268_0 := (HB.out.cell (World.block_lt_of_cell? w _ hx268_0)).trans hx268_0
                                     replace p268 := eq_true p268
                                     replace q268 := eq_true q268
                                     obtain ⟨Ao96, co96, eo96⟩ := Kd.R_slice HO_16.out
                                     subst eo96
                                     have p269 : 0 ≤ ((rd ((rd_T36 l0_2 x21_5).f2) x22_6) : Int) := of_decide_eq_true (by assumption)
                                     have q269 : (rd ((rd_T36 l0_2 x21_5).f2) x22_6) < (x16_2.length : Int) := of_decide_eq_true (by assumption)
                                     obtain ⟨ad269, e269, hx269_0⟩ := Kd.at_bool (Kd.R_reads' HO_16.out).2.2 (rd ((rd_T36 l0_2 x21_5).f2) x22_6) p269 q269
                                     (try rw [← Nbq89.out] at hx269_0)
                                     (try rw [← Nbq93.out] at hx269_0)
                                     cases e269
                                     replace p269 := eq_true p269
                                     replace q269 := eq_true q269
                                     have p270 : 0 ≤ (x21_5 : Int) := of_decide_eq_true (by assumption)
                                     have q270 : x21_5 < (l0_2.length : Int) := of_decide_eq_true (by assumption)
                                     obtain ⟨ad270, A270_2, c270_2, e270, hx270_0, hx270_1, hx270_2, hl270_2, hi270_2⟩ := at_T36 HR0_2.out x21_5 p270 q270
                                     obtain rfl : ad266 = ad270 := (by injection e270)
                                     replace hx270_0 := (HB.out.cell (World.block_lt_of_cell? w _ hx270_0)).trans hx270_0
                                     replace hx270_1 := (HB.out.cell (World.block_lt_of_cell? w _ hx270_1)).trans hx270_1
                                     replace hx270_2 := (HB.out.cell (World.block_lt_of_cell? w _ hx270_2)).trans hx270_2
                                     have HR270_2 := Aside0.mk hi270_2
                                     have HC270_2 := Aside0.mk hl270_2
                                     clear hi270_2 hl270_2
                                     replace p270 := eq_true p270
                                     replace q270 := eq_true q270
                                     have ea_ := Option.some.inj (hx266_2.symm.trans hx270_2)
                                     injection ea_ with ea_ en_ ec_
                                     subst ea_
                                     subst ec_
                                     clear en_
                                     have p271 : 0 ≤ (((rd_T36 l0_2 x21_5).f1) : Int) := of_decide_eq_true (by assumption)
                                     have q271 : ((rd_T36 l0_2 x21_5).f1) < (x16_2.length : Int) := of_decide_eq_true (by assumption)
                                     obtain ⟨ad271, e271, hx271_0⟩ := Kd.at_bool (Kd.R_reads' HO_16.out).2.2 ((rd_T36 l0_2 x21_5).f1) p271 q271
                                     (try rw [← Nbq89.out] at hx271_0)
                                     (try rw [← Nbq93.out] at hx271_0)
                                     obtain rfl : ad269 = ad271 := (by injection e271)
                                     replace p271 := eq_true p271
                                     replace q271 := eq_true q271
                                     go_wp2
                                     go_roundg k6
                                     case measure => have := HJ7.out; have := HK2.out; have := HK3.out; have := HK4.out; have := HK5.out; have := HK6.out; omega
                                     case rel => exact ⟨(wrap64 (x22_6 + 1)), (rfl), H', ⟨by have := HJ7.out; have := HK2.out; have := HK3.out; have := HK4.out; have := HK5.out; have := HK6.out; omega⟩, ⟨HO_16.out⟩, ⟨BK222.out⟩, ⟨HB.out⟩⟩
                                    ·replace c94 := Bool.eq_false_iff.mpr c94
                                     subst c94
                                     have H1 : (none) = some r := by rw [if_neg (show ¬ (false = true) by decide)] at H; exact H
                                     clear H
                                     have H := H1
                                     clear H1
                                     exact absurd H (by simp)
                                   ·rw [if_neg c92] at H
                                    exact absurd H (by simp)
                                  ·rw [if_neg c91] at H
                                   exact absurd H (by simp)
                                 ·replace c90 := Bool.eq_false_iff.mpr c90
                                  subst c90
                                  have H1 : (lexpriorlaw12_TheoryCones.l5 k6 x16_2 x21_5 (wrap64 (x22_6 + 1)) a0_0 l0_1 l0_2 l0_3) = some r := by rw [if_neg (show ¬ (false = true) by decide)] at H; exact H
                                  clear H
                                  have H := H1
                                  clear H1
                                  have H' := Aside0.mk H
                                  clear H
                                  have hcz97_0 : wr.cell? ⟨gb222, 0, none⟩ = some (.int .i64 a0_0) := (blk_cell BK222.out 0).trans rfl
                                  have hcz97_1 : wr.cell? ⟨gb222, 1, none⟩ = some (.slice A0_1 l0_1.length c0_1) := (blk_cell BK222.out 1).trans rfl
                                  have hcz97_2 : wr.cell? ⟨gb222, 2, none⟩ = some (.slice A0_2 l0_2.length c0_2) := (blk_cell BK222.out 2).trans rfl
                                  have hcz97_3 : wr.cell? ⟨gb222, 3, none⟩ = some (.slice A0_3 l0_3.length c0_3) := (blk_cell BK222.out 3).trans rfl
                                  have hfz97_0 := blk_frozen BK222.out 0
                                  have hfz97_1 := blk_frozen BK222.out 1
                                  have hfz97_2 := blk_frozen BK222.out 2
                                  have hfz97_3 := blk_frozen BK222.out 3
                                  have p266 : 0 ≤ (x21_5 : Int) := of_decide_eq_true (by assumption)
                                  have q266 : x21_5 < (l0_2.length : Int) := of_decide_eq_true (by assumption)
                                  obtain ⟨ad266, A266_2, c266_2, e266, hx266_0, hx266_1, hx266_2, hl266_2, hi266_2⟩ := at_T36 HR0_2.out x21_5 p266 q266
                                  cases e266
                                  replace hx266_0 := (HB.out.cell (World.block_lt_of_cell? w _ hx266_0)).trans hx266_0
                                  replace hx266_1 := (HB.out.cell (World.block_lt_of_cell? w _ hx266_1)).trans hx266_1
                                  replace hx266_2 := (HB.out.cell (World.block_lt_of_cell? w _ hx266_2)).trans hx266_2
                                  have HR266_2 := Aside0.mk hi266_2
                                  have HC266_2 := Aside0.mk hl266_2
                                  clear hi266_2 hl266_2
                                  replace p266 := eq_true p266
                                  replace q266 := eq_true q266
                                  have p267 : 0 ≤ (x21_5 : Int) := of_decide_eq_true (by assumption)
                                  have q267 : x21_5 < (l0_2.length : Int) := of_decide_eq_true (by assumption)
                                  obtain ⟨ad267, A267_2, c267_2, e267, hx267_0, hx267_1, hx267_2, hl267_2, hi267_2⟩ := at_T36 HR0_2.out x21_5 p267 q267
                                  obtain rfl : ad266 = ad267 := (by injection e267)
                                  replace hx267_0 := (HB.out.cell (World.block_lt_of_cell? w _ hx267_0)).trans hx267_0
                                  replace hx267_1 := (HB.out.cell (World.block_lt_of_cell? w _ hx267_1)).trans hx267_1
                                  replace hx267_2 := (HB.out.cell (World.block_lt_of_cell? w _ hx267_2)).trans hx267_2
                                  have HR267_2 := Aside0.mk hi267_2
                                  have HC267_2 := Aside0.mk hl267_2
                                  clear hi267_2 hl267_2
                                  replace p267 := eq_true p267
                                  replace q267 := eq_true q267
                                  have ea_ := Option.some.inj (hx266_2.symm.trans hx267_2)
                                  injection ea_ with ea_ en_ ec_
                                  subst ea_
                                  subst ec_
                                  clear en_
                                  have p268 : 0 ≤ (x22_6 : Int) := of_decide_eq_true (by assumption)
                                  have q268 : x22_6 < (((rd_T36 l0_2 x21_5).f2).length : Int) := of_decide_eq_true (by assumption)
                                  obtain ⟨ad268, e268, hx268_0⟩ := Kd.at_int HR267_2.out x22_6 p268 q268
                                  cases e268
                                  replace hx268_0 := (HB.out.cell (World.block_lt_of_cell? w _ hx268_0)).trans hx268_0
                                  replace p268 := eq_true p268
                                  replace q268 := eq_true q268
                                  obtain ⟨Ao98, co98, eo98⟩ := Kd.R_slice HO_16.out
                                  subst eo98
                                  have p269 : 0 ≤ ((rd ((rd_T36 l0_2 x21_5).f2) x22_6) : Int) := of_decide_eq_true (by assumption)
                                  have q269 : (rd ((rd_T36 l0_2 x21_5).f2) x22_6) < (x16_2.length : Int) := of_decide_eq_true (by assumption)
                                  obtain ⟨ad269, e269, hx269_0⟩ := Kd.at_bool (Kd.R_reads' HO_16.out).2.2 (rd ((rd_T36 l0_2 x21_5).f2) x22_6) p269 q269
                                  (try rw [← Nbq89.out] at hx269_0)
                                  cases e269
                                  replace p269 := eq_true p269
                                  replace q269 := eq_true q269
                                  go_wp2
                                  go_roundg k6
                                  case measure => have := HJ7.out; have := HK2.out; have := HK3.out; have := HK4.out; have := HK5.out; have := HK6.out; omega
                                  case rel => exact ⟨(wrap64 (x22_6 + 1)), (rfl), H', ⟨by have := HJ7.out; have := HK2.out; have := HK3.out; have := HK4.out; have := HK5.out; have := HK6.out; omega⟩, ⟨HO_16.out⟩, ⟨BK222.out⟩, ⟨HB.out⟩⟩
                                ·rw [if_neg c88] at H
                                 exact absurd H (by simp)
                               ·rw [if_neg c87] at H
                                exact absurd H (by simp)
                              ·rw [if_neg c86] at H
                               exact absurd H (by simp)
                             ·rw [if_neg c85] at H
                              have c85b0 : decide (x22_6 < (((rd_T36 l0_2 x21_5).f2).length : Int)) = false := decide_eq_false c85
                              clear c85
                              have H' := Aside0.mk H
                              clear H
                              have hcz99_0 : wr.cell? ⟨gb222, 0, none⟩ = some (.int .i64 a0_0) := (blk_cell BK222.out 0).trans rfl
                              have hcz99_1 : wr.cell? ⟨gb222, 1, none⟩ = some (.slice A0_1 l0_1.length c0_1) := (blk_cell BK222.out 1).trans rfl
                              have hcz99_2 : wr.cell? ⟨gb222, 2, none⟩ = some (.slice A0_2 l0_2.length c0_2) := (blk_cell BK222.out 2).trans rfl
                              have hcz99_3 : wr.cell? ⟨gb222, 3, none⟩ = some (.slice A0_3 l0_3.length c0_3) := (blk_cell BK222.out 3).trans rfl
                              have hfz99_0 := blk_frozen BK222.out 0
                              have hfz99_1 := blk_frozen BK222.out 1
                              have hfz99_2 := blk_frozen BK222.out 2
                              have hfz99_3 := blk_frozen BK222.out 3
                              have p266 : 0 ≤ (x21_5 : Int) := of_decide_eq_true (by assumption)
                              have q266 : x21_5 < (l0_2.length : Int) := of_decide_eq_true (by assumption)
                              obtain ⟨ad266, A266_2, c266_2, e266, hx266_0, hx266_1, hx266_2, hl266_2, hi266_2⟩ := at_T36 HR0_2.out x21_5 p266 q266
                              cases e266
                              replace hx266_0 := (HB.out.cell (World.block_lt_of_cell? w _ hx266_0)).trans hx266_0
                              replace hx266_1 := (HB.out.cell (World.block_lt_of_cell? w _ hx266_1)).trans hx266_1
                              replace hx266_2 := (HB.out.cell (World.block_lt_of_cell? w _ hx266_2)).trans hx266_2
                              have HR266_2 := Aside0.mk hi266_2
                              have HC266_2 := Aside0.mk hl266_2
                              clear hi266_2 hl266_2
                              replace p266 := eq_true p266
                              replace q266 := eq_true q266
                              go_wp2
                              go_roundg k6
                              case measure => have := HJ7.out; have := HK2.out; have := HK3.out; have := HK4.out; have := HK5.out; have := HK6.out; omega
                              case rel => exact ⟨(wrap64 (x21_5 + 1)), (rfl), H', ⟨by have := HJ7.out; have := HK2.out; have := HK3.out; have := HK4.out; have := HK5.out; have := HK6.out; omega⟩, ⟨HO_16.out⟩, ⟨BK222.out⟩, ⟨HB.out⟩⟩
                            ·rw [if_neg c84] at H
                             exact absurd H (by simp)
                           ·rw [if_neg c83] at H
                            exact absurd H (by simp)
                        ·rw [if_neg c81] at H
                         have c81b0 : decide (x21_5 < (l0_2.length : Int)) = false := decide_eq_false c81
                         clear c81
                         obtain rfl := Option.some.inj H
                         have hcz100_0 : wr.cell? ⟨gb222, 0, none⟩ = some (.int .i64 a0_0) := (blk_cell BK222.out 0).trans rfl
                         have hcz100_1 : wr.cell? ⟨gb222, 1, none⟩ = some (.slice A0_1 l0_1.length c0_1) := (blk_cell BK222.out 1).trans rfl
                         have hcz100_2 : wr.cell? ⟨gb222, 2, none⟩ = some (.slice A0_2 l0_2.length c0_2) := (blk_cell BK222.out 2).trans rfl
                         have hcz100_3 : wr.cell? ⟨gb222, 3, none⟩ = some (.slice A0_3 l0_3.length c0_3) := (blk_cell BK222.out 3).trans rfl
                         have hfz100_0 := blk_frozen BK222.out 0
                         have hfz100_1 := blk_frozen BK222.out 1
                         have hfz100_2 := blk_frozen BK222.out 2
                         have hfz100_3 := blk_frozen BK222.out 3
                         go_wp2
                         go_ret
                         exact ⟨rfl, HB.out⟩
            ·rw [if_neg c29] at H
             exact absurd H (by simp)
           ·rw [if_neg c28] at H
            exact absurd H (by simp)
          ·replace c27 := Bool.eq_false_iff.mpr c27
           subst c27
           have H1 : (none) = some r := by rw [if_neg (show ¬ (false = true) by decide)] at H; exact H
           clear H
           have H := H1
           clear H1
           exact absurd H (by simp)
         ·replace c24 := Bool.eq_false_iff.mpr c24
          subst c24
          have H1 : (none) = some r := by rw [if_neg (show ¬ (false = true) by decide)] at H; exact H
          clear H
          have H := H1
          clear H1
          exact absurd H (by simp)
        ·rw [if_neg c22] at H
         exact absurd H (by simp)
       ·rw [if_neg c21] at H
        exact absurd H (by simp)
      ·rw [if_neg c18] at H
       exact absurd H (by simp)
     ·rw [if_neg c17] at H
      exact absurd H (by simp)
 ·replace c5 := Bool.eq_false_iff.mpr c5
  subst c5
  have H1 : (none) = some r := by rw [if_neg (show ¬ (false = true) by decide)] at H; exact H
  clear H
  have H := H1
  clear H1
  exact absurd H (by simp)

end Go.Proofs.Ytpcaonkahhbgfaa.P
