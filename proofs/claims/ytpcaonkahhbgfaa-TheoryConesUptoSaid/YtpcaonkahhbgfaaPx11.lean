-- Written by lexprint.py, a program of this session's own that runs the kit's print with turned rows. Lean checks it.
import Derived.Test.YtpcaonkahhbgfaaPx0
import Derived.Test.YtpcaonkahhbgfaaPx1
import Derived.Test.YtpcaonkahhbgfaaPx5
import Derived.Test.YtpcaonkahhbgfaaPx6
import Derived.Test.YtpcaonkahhbgfaaPx9
import Derived.Test.YtpcaonkahhbgfaaPx10
namespace Go.Proofs.Ytpcaonkahhbgfaa.P
open Go.RowKit Go.Proofs.YtpcaonkahhbgfaaW.PrintWords Go.Proofs.YtpcaonkahhbgfaaW.PrintLast Go.Proofs.YtpcaonkahhbgfaaW.PrintMore
attribute [local go_sem] max2_int min2_int max_two min_two
set_option linter.unusedVariables false
set_option linter.unusedSimpArgs false

/-! ### lexpriorlaw12_works: function 4 -/
instance : DecidableEq S36 := fun a b => decidable_of_iff (a.f0 = b.f0 ∧ a.f1 = b.f1 ∧ a.f2 = b.f2) (by cases a; cases b; simp)
def wkRs : List S36 := [⟨2, 0, []⟩, ⟨2, 1, []⟩]
def wkB : List Int := [116, 104, 121, 1, 2, 1, 1, 0, 2, 2, 0, 0, 2, 1, 0, 1, 1, 0]
instance : DecidableEq (List S36) := inferInstance
instance : DecidableEq (List (List Int) × Int × Int) := inferInstance
instance : DecidableEq (List S36 × List (List Int) × Int × Int) := inferInstance
instance : DecidableEq (Int × List (List Int) × List S36 × List (List Int) × Int × Int) := inferInstance
instance : DecidableEq (Option (Int × List (List Int) × List S36 × List (List Int) × Int × Int)) := inferInstance
def lexpriorlaw12_works.f (k : Nat) : Option Bool :=
  if ((theory_Check.f k 2 [[1], [0]] wkRs [[1], []] = some (0, 0) ∧ theory_Encode.f k 2 [[1], [0]] wkRs [[1], []] = some (wkB, 0)) ∧ theory_Decode.f k wkB = some (2, [[1], [0]], wkRs, [[1], []], 0, 18)) ∧
    (theory_Pairs.f k 2 [[1], [0]] wkRs [[1], []] = some (2, 0) ∧ theory_Check.f k 2 [[1], [0]] wkRs [[1], [0]] = some (131, 0)) ∧ lexpriorplain_SameTheory.f k 2 [[1], [0]] wkRs [[1], []] 2 [[1], [0]] wkRs [[1], []] = some true then some true else none
/-- A theory in its block; what it leads to lies apart from block av. -/
structure WkS (w W : World) (av gu : Nat) (be : List (List Int)) (A1 A2 A3 : Option Addr) (d1 d2 d3 : Nat) : Prop where
  B : Below w.heap.size w W
  blk : W.heap[gu]? = some (.cells #[.int .i64 2, .slice A1 2 d1, .slice A2 2 d2, .slice A3 2 d3] 25 (0, 0))
  c1 : Kd.F (Kd.slice 3 (Kd.int .i64)) W (fun k => k ≠ av) A1 2 [[1], [0]]
  c2 : Kd.F k36 W (fun k => k ≠ av) A2 2 wkRs
  c3 : Kd.F (Kd.slice 3 (Kd.int .i64)) W (fun k => k ≠ av) A3 2 be
  l1 : 2 ≤ d1
  l2 : 2 ≤ d2
  l3 : 2 ≤ d3
theorem WkS.on {w W W1 : World} {av gu : Nat} {be : List (List Int)} {A1 A2 A3 : Option Addr} {d1 d2 d3 : Nat} (h : WkS w W av gu be A1 A2 A3 d1 d2 d3) (hb : Below W.heap.size W W1) : WkS w W1 av gu be A1 A2 A3 d1 d2 d3 :=
  ⟨below_step h.B hb, blk_below h.blk hb, Kd.F_below h.c1 hb, Kd.F_below h.c2 hb, Kd.F_below h.c3 hb, h.l1, h.l2, h.l3⟩
theorem WkS.cells {w W : World} {av gu : Nat} {be : List (List Int)} {A1 A2 A3 : Option Addr} {d1 d2 d3 : Nat} (h : WkS w W av gu be A1 A2 A3 d1 d2 d3) : W.cell? ⟨gu, 0, none⟩ = some (.int .i64 2) ∧ W.cell? ⟨gu, 1, none⟩ = some (.slice A1 2 d1) ∧ W.cell? ⟨gu, 2, none⟩ = some (.slice A2 2 d2) ∧ W.cell? ⟨gu, 3, none⟩ = some (.slice A3 2 d3) :=
  ⟨(blk_cell h.blk 0).trans rfl, (blk_cell h.blk 1).trans rfl, (blk_cell h.blk 2).trans rfl, (blk_cell h.blk 3).trans rfl⟩
theorem WkS.drew {w W : World} {av gu : Nat} {be : List (List Int)} {A1 A2 A3 : Option Addr} {d1 d2 d3 : Nat} (h : WkS w W av gu be A1 A2 A3 d1 d2 d3) : WkS w W.drew av gu be A1 A2 A3 d1 d2 d3 := h.on (below_drew (Below.refl _ _))
theorem drawn_below {w w' : World} (h : Drawn0 w w') : Below w.heap.size w w' := by
  obtain ⟨n, rfl⟩ := h.out
  exact pw_below_drewN (Below.refl _ _) n
theorem wk_cons {α : Type} {R : α → List Value → Prop} {size : Nat} {p : α} {ps : List α} {c cs : List Value} (hp : R p c) (hc : c.length = size) (h : Reps R size ps cs) : Reps R size (p :: ps) (c ++ cs) := by
  refine ⟨by rw [List.length_append, hc, h.1, List.length_cons, Nat.add_mul, Nat.one_mul, Nat.add_comm], fun j q hq => ?_⟩
  cases j with
  | zero =>
    simp only [List.getElem?_cons_zero, Option.some.injEq] at hq
    subst hq
    rw [Nat.zero_mul, List.drop_zero, List.take_left' hc]
    exact hp
  | succ j =>
    rw [List.getElem?_cons_succ] at hq
    have := h.2 j q hq
    rw [Nat.add_mul, Nat.one_mul, show j * size + size = c.length + j * size from by omega, List.drop_append, List.drop_eq_nil_of_le (by omega), List.nil_append]
    have e : c.length + j * size - c.length = j * size := by omega
    rw [e]
    exact this
/-- A block that is read as a row. -/
theorem wk_block {α : Type} {d : Kd α} {W : World} {g : Nat} {cs : Array Value} {e : TypeId} {xs : List α} (h : W.heap[g]? = some (.cells cs e (0, 0))) (hr : Reps (d.K W) d.sz xs cs.toList) (hm : xs.length ≤ 1000000) : d.C W (some ⟨g, 0, none⟩) xs.length xs := by
  refine ⟨rfl, by omega, fun _ => ⟨_, rfl, fun j p hj => ⟨_, d.K_len (hr.2 j p hj), hr.2 j p hj, fun i u hu => ?_⟩⟩⟩
  rw [add_plain, blk_cell h]
  have hi : i < ((cs.toList.drop (j * d.sz)).take d.sz).length := (List.getElem?_eq_some_iff.1 hu).1
  rw [List.getElem?_take] at hu
  split at hu
  · rw [List.getElem?_drop] at hu
    simpa using hu
  · cases hu
theorem ints1 {W : World} {g : Nat} (x : Int) (h : W.heap[g]? = some (.cells #[.int .i64 x] 3 (0, 0))) : Kd.C (Kd.int .i64) W (some ⟨g, 0, none⟩) 1 [x] := Kd.C_blk (n := 1) h rfl rfl (by decide)
set_option maxHeartbeats 4000000 in
set_option maxRecDepth 100000 in
theorem lexpriorlaw12_works.calls (k : Nat) (r : Bool) (w : World) (h : lexpriorlaw12_works.f k = some r) :
    Calls Try.prog 4 #[] w fun e w' => e = .returned (.bool r) ∧ Below w.heap.size w w' := by
  unfold lexpriorlaw12_works.f at h
  split at h
  rotate_left
  · cases h
  rename_i hc
  cases h
  have HC := Aside0.mk hc
  clear hc
  go_enter Try.func4, Try.ntmps4
  go_wp2_with fail
  refine (lexpriorlaw12_two.calls _ _ _ _ w rfl).mono ?_
  rintro e w1 ⟨v1, v2, v3, rfl, hN1, hN2, hN3, hb⟩
  obtain ⟨B1, e1, ev, p1, q1⟩ := Kd.N_reads hN1
  change v1 = .slice B1 2 e1 at ev
  subst ev
  obtain ⟨B2, e2, ev, p2, q2⟩ := Kd.N_reads hN2
  change v2 = .slice B2 2 e2 at ev
  subst ev
  obtain ⟨B3, e3, ev, p3, q3⟩ := Kd.N_reads hN3
  change v3 = .slice B3 2 e3 at ev
  subst ev
  have hbt := blk_new w1 (.cells #[.int .i64 2, .slice B1 2 e1, .slice B2 2 e2, .slice B3 2 e3] 25 (0, 0))
  have hal := below_alloc (Below.refl w1.heap.size w1) (.cells #[.int .i64 2, .slice B1 2 e1, .slice B2 2 e2, .slice B3 2 e3] 25 (0, 0))
  have ST : Aside0 (WkS w (w1.alloc (.cells #[.int .i64 2, .slice B1 2 e1, .slice B2 2 e2, .slice B3 2 e3] 25 (0, 0))) w1.heap.size w1.heap.size [[1], []] B1 B2 B3 e1 e2 e3) := ⟨⟨below_step hb hal, hbt, Kd.F_below (Kd.F_mono (Kd.N_F (Kd.N_bound hN1)) (fun k hk => by have := hk.2; omega)) hal, Kd.F_below (Kd.F_mono (Kd.N_F (Kd.N_bound hN2)) (fun k hk => by have := hk.2; omega)) hal, Kd.F_below (Kd.F_mono (Kd.N_F (Kd.N_bound hN3)) (fun k hk => by have := hk.2; omega)) hal, p1, p2, p3⟩⟩
  obtain ⟨gt, hgt⟩ : ∃ gt, gt = w1.heap.size := ⟨_, rfl⟩
  have HG := Aside0.mk (show w.heap.size ≤ gt by rw [hgt]; exact hb.size)
  clear hN1 hN2 hN3 hb p1 p2 p3 q1 q2 q3 hbt hal
  go_upto_region 2 with fail
  rw [← hgt] at ST ⊢
  generalize w1.alloc (.cells #[.int .i64 2, .slice B1 2 e1, .slice B2 2 e2, .slice B3 2 e3] 25 (0, 0)) = w2 at ST ⊢
  clear hgt
  as_aux_lemma =>
  obtain ⟨x0, x1, x2, x3⟩ := ST.out.cells
  go_wp2_with fail
  refine (theory_Check.calls k 2 B1 e1 [[1], [0]] B2 e2 wkRs B3 e3 [[1], []] 0 0 w2 ST.out.c1.now ST.out.l1 ST.out.c2.now ST.out.l2 ST.out.c3.now ST.out.l3 HC.out.1.1.1).mono ?_
  rintro e w3 ⟨rfl, hb⟩
  have ST3 := Aside0.mk (ST.out.on hb)
  clear ST x0 x1 x2 x3 hb
  obtain ⟨x0, x1, x2, x3⟩ := ST3.out.cells
  go_wp2_with fail
  refine (theory_Encode.calls k 2 B1 e1 [[1], [0]] B2 e2 wkRs B3 e3 [[1], []] wkB 0 w3 ST3.out.c1.now ST3.out.l1 ST3.out.c2.now ST3.out.l2 ST3.out.c3.now ST3.out.l3 HC.out.1.1.2).mono ?_
  rintro e w4 ⟨vb, rfl, hR, hb⟩
  obtain ⟨Ab, cb, rfl, lb, qb⟩ := Kd.R_reads hR
  have ST4 := Aside0.mk (ST3.out.on hb)
  have QB := Aside0.mk qb
  have LB := Aside0.mk lb
  clear ST3 x0 x1 x2 x3 hb hR qb lb
  go_wp2_with fail
  refine (theory_Decode.calls k Ab cb wkB 2 [[1], [0]] wkRs [[1], []] 0 18 w4 QB.out LB.out HC.out.1.2).mono ?_
  rintro e w5 ⟨v1, v2, v3, rfl, hS1, hS2, hS3, hb⟩
  obtain ⟨A1, d1, ev, p1, q1⟩ := Kd.S_reads hS1
  change v1 = .slice A1 2 d1 at ev
  subst ev
  obtain ⟨A2, d2, ev, p2, q2⟩ := Kd.S_reads hS2
  change v2 = .slice A2 2 d2 at ev
  subst ev
  obtain ⟨A3, d3, ev, p3, q3⟩ := Kd.S_reads hS3
  change v3 = .slice A3 2 d3 at ev
  subst ev
  have hbt := blk_new w5 (.cells #[.int .i64 2, .slice A1 2 d1, .slice A2 2 d2, .slice A3 2 d3] 25 (0, 0))
  have hal := below_alloc (Below.refl w5.heap.size w5) (.cells #[.int .i64 2, .slice A1 2 d1, .slice A2 2 d2, .slice A3 2 d3] 25 (0, 0))
  have ST5 := Aside0.mk ((ST4.out.on hb).on hal)
  have hg4 := blk_lt ST4.out.blk
  have SU : Aside0 (WkS w (w5.alloc (.cells #[.int .i64 2, .slice A1 2 d1, .slice A2 2 d2, .slice A3 2 d3] 25 (0, 0))) gt w5.heap.size [[1], []] A1 A2 A3 d1 d2 d3) := ⟨⟨ST5.out.B, hbt, Kd.F_below (Kd.F_mono (Kd.S_F (Kd.S_bound hS1)) (fun k hk => by have := hk.2.1; omega)) hal, Kd.F_below (Kd.F_mono (Kd.S_F (Kd.S_bound hS2)) (fun k hk => by have := hk.2.1; omega)) hal, Kd.F_below (Kd.F_mono (Kd.S_F (Kd.S_bound hS3)) (fun k hk => by have := hk.2.1; omega)) hal, p1, p2, p3⟩⟩
  obtain ⟨gu, hgu⟩ : ∃ gu, gu = w5.heap.size := ⟨_, rfl⟩
  have HNE := Aside0.mk (show gu ≠ gt by have := blk_lt (blk_below ST4.out.blk hb); omega)
  clear hS1 hS2 hS3 hb p1 p2 p3 q1 q2 q3 hbt hal ST4 QB LB hg4
  go_upto_region 5 with fail
  rw [← hgu] at SU ⊢
  generalize w5.alloc (.cells #[.int .i64 2, .slice A1 2 d1, .slice A2 2 d2, .slice A3 2 d3] 25 (0, 0)) = w6 at ST5 SU ⊢
  clear hgu
  as_aux_lemma =>
  obtain ⟨x0, x1, x2, x3⟩ := ST5.out.cells
  go_wp2_with fail
  refine (theory_Pairs.calls k 2 B1 e1 [[1], [0]] B2 e2 wkRs B3 e3 [[1], []] 2 0 w6 ST5.out.c1.now ST5.out.l1 ST5.out.c2.now ST5.out.l2 ST5.out.c3.now ST5.out.l3 HC.out.2.1.1).mono ?_
  rintro e w7 ⟨rfl, hb⟩
  have ST7 := Aside0.mk (ST5.out.on hb)
  have SU7 := Aside0.mk (SU.out.on hb)
  clear ST5 SU x0 x1 x2 x3 hb
  have hlt := blk_lt ST7.out.blk
  have hlu := blk_lt SU7.out.blk
  have hb3 := blk_alloc (blk_alloc (blk_alloc ST7.out.blk (.cells #[.int .i64 1] 3 (0, 0))) (.cells #[.int .i64 0] 3 (0, 0))) (.cells #[.slice (some ⟨w7.heap.size, 0, none⟩) 1 1, .slice (some ⟨w7.heap.size + 1, 0, none⟩) 1 1] 26 (0, 0))
  have x3 := (blk_cell hb3 3).trans rfl
  have f3 := blk_frozen hb3 3
  have i1 := blk_alloc (blk_alloc (blk_new w7 (.cells #[.int .i64 1] 3 (0, 0))) (.cells #[.int .i64 0] 3 (0, 0))) (.cells #[.slice (some ⟨w7.heap.size, 0, none⟩) 1 1, .slice (some ⟨w7.heap.size + 1, 0, none⟩) 1 1] 26 (0, 0))
  have i2 := blk_alloc (blk_new (w7.alloc (.cells #[.int .i64 1] 3 (0, 0))) (.cells #[.int .i64 0] 3 (0, 0))) (.cells #[.slice (some ⟨w7.heap.size, 0, none⟩) 1 1, .slice (some ⟨w7.heap.size + 1, 0, none⟩) 1 1] 26 (0, 0))
  have i3 := blk_new ((w7.alloc (.cells #[.int .i64 1] 3 (0, 0))).alloc (.cells #[.int .i64 0] 3 (0, 0))) (.cells #[.slice (some ⟨w7.heap.size, 0, none⟩) 1 1, .slice (some ⟨w7.heap.size + 1, 0, none⟩) 1 1] 26 (0, 0))
  rw [World.size_alloc] at i2
  rw [World.size_alloc, World.size_alloc] at i3
  have hbl := below_alloc (below_alloc (below_alloc (Below.refl w7.heap.size w7) (.cells #[.int .i64 1] 3 (0, 0))) (.cells #[.int .i64 0] 3 (0, 0))) (.cells #[.slice (some ⟨w7.heap.size, 0, none⟩) 1 1, .slice (some ⟨w7.heap.size + 1, 0, none⟩) 1 1] 26 (0, 0))
  have su := SU7.out.on hbl
  have st := ST7.out.on hbl
  have sf : ∀ {α : Type} {d : Kd α} {Ax : Option Addr} {nx : Nat} {xs : List α}, d.C (((w7.alloc (.cells #[.int .i64 1] 3 (0, 0))).alloc (.cells #[.int .i64 0] 3 (0, 0))).alloc (.cells #[.slice (some ⟨w7.heap.size, 0, none⟩) 1 1, .slice (some ⟨w7.heap.size + 1, 0, none⟩) 1 1] 26 (0, 0))) Ax nx xs → True := fun _ => trivial
  have HSU := Aside0.mk su
  have HST := Aside0.mk st
  have HI := Aside0.mk (And.intro i1 (And.intro i2 i3))
  have HHB := Aside0.mk hb3
  have hgw : w.heap.size ≤ gt := HG.out
  clear hbl su st i1 i2 i3 hb3 ST7 SU7
  go_upto_region 7 with fail
  have HSU8 : Aside0 (WkS w ((((w7.alloc (.cells #[.int .i64 1] 3 (0, 0))).alloc (.cells #[.int .i64 0] 3 (0, 0))).alloc (.cells #[.slice (some ⟨w7.heap.size, 0, none⟩) 1 1, .slice (some ⟨w7.heap.size + 1, 0, none⟩) 1 1] 26 (0, 0))).setCell ⟨gt, 3, none⟩ (.slice (some ⟨w7.heap.size + 1 + 1, 0, none⟩) 2 2)) gt gu [[1], []] A1 A2 A3 d1 d2 d3) := ⟨⟨below_set HSU.out.B HG.out, blk_far HSU.out.blk (by simpa using HNE.out) _, Kd.F_far (p := ⟨gt, 3, none⟩) HSU.out.c1 (fun _ hk => hk) _, Kd.F_far (p := ⟨gt, 3, none⟩) HSU.out.c2 (fun _ hk => hk) _, Kd.F_far (p := ⟨gt, 3, none⟩) HSU.out.c3 (fun _ hk => hk) _, HSU.out.l1, HSU.out.l2, HSU.out.l3⟩⟩
  have z1 := blk_far HI.out.1 (p := ⟨gt, 3, none⟩) (by simp; omega) (.slice (some ⟨w7.heap.size + 1 + 1, 0, none⟩) 2 2)
  have z2 := blk_far HI.out.2.1 (p := ⟨gt, 3, none⟩) (by simp; omega) (.slice (some ⟨w7.heap.size + 1 + 1, 0, none⟩) 2 2)
  have z3 := blk_far HI.out.2.2 (p := ⟨gt, 3, none⟩) (by simp; omega) (.slice (some ⟨w7.heap.size + 1 + 1, 0, none⟩) 2 2)
  have KB : Aside0 (Kd.C (Kd.slice 3 (Kd.int .i64)) ((((w7.alloc (.cells #[.int .i64 1] 3 (0, 0))).alloc (.cells #[.int .i64 0] 3 (0, 0))).alloc (.cells #[.slice (some ⟨w7.heap.size, 0, none⟩) 1 1, .slice (some ⟨w7.heap.size + 1, 0, none⟩) 1 1] 26 (0, 0))).setCell ⟨gt, 3, none⟩ (.slice (some ⟨w7.heap.size + 1 + 1, 0, none⟩) 2 2)) (some ⟨w7.heap.size + 1 + 1, 0, none⟩) 2 [[1], [0]]) := ⟨wk_block (d := Kd.slice 3 (Kd.int .i64)) (xs := [[1], [0]]) z3 (wk_cons (c := [.slice (some ⟨w7.heap.size, 0, none⟩) 1 1]) ⟨_, 1, rfl, Nat.le_refl 1, ints1 1 z1⟩ rfl (wk_cons (c := [.slice (some ⟨w7.heap.size + 1, 0, none⟩) 1 1]) ⟨_, 1, rfl, Nat.le_refl 1, ints1 0 z2⟩ rfl (Reps.none _ _))) (by simp)⟩
  have HC1 := Aside0.mk (Kd.F_far (p := ⟨gt, 3, none⟩) HST.out.c1 (fun _ hk => hk) (.slice (some ⟨w7.heap.size + 1 + 1, 0, none⟩) 2 2))
  have HC2 := Aside0.mk (Kd.F_far (p := ⟨gt, 3, none⟩) HST.out.c2 (fun _ hk => hk) (.slice (some ⟨w7.heap.size + 1 + 1, 0, none⟩) 2 2))
  have HBK := Aside0.mk (blk_put HST.out.blk 3 (.slice (some ⟨w7.heap.size + 1 + 1, 0, none⟩) 2 2) rfl)
  have hl1 := HST.out.l1
  have hl2 := HST.out.l2
  clear x3 f3 z1 z2 z3 HI HHB HST HSU hlt hlu
  generalize (((w7.alloc (.cells #[.int .i64 1] 3 (0, 0))).alloc (.cells #[.int .i64 0] 3 (0, 0))).alloc (.cells #[.slice (some ⟨w7.heap.size, 0, none⟩) 1 1, .slice (some ⟨w7.heap.size + 1, 0, none⟩) 1 1] 26 (0, 0))).setCell ⟨gt, 3, none⟩ (.slice (some ⟨w7.heap.size + 1 + 1, 0, none⟩) 2 2) = w8 at HSU8 KB HC1 HC2 HBK ⊢
  generalize (⟨w7.heap.size + 1 + 1, 0, none⟩ : Addr) = ab at KB HBK ⊢
  as_aux_lemma =>
  have y0 : w8.cell? ⟨gt, 0, none⟩ = some (.int .i64 2) := (blk_cell HBK.out 0).trans rfl
  have y1 : w8.cell? ⟨gt, 1, none⟩ = some (.slice B1 2 e1) := (blk_cell HBK.out 1).trans rfl
  have y2 : w8.cell? ⟨gt, 2, none⟩ = some (.slice B2 2 e2) := (blk_cell HBK.out 2).trans rfl
  have y3 : w8.cell? ⟨gt, 3, none⟩ = some (.slice (some ab) 2 2) := (blk_cell HBK.out 3).trans rfl
  go_wp2_with fail
  refine (theory_Check.calls k 2 B1 e1 [[1], [0]] B2 e2 wkRs (some ab) 2 [[1], [0]] 131 0 w8 HC1.out.now hl1 HC2.out.now hl2 KB.out (Nat.le_refl 2) HC.out.2.1.2).mono ?_
  rintro e w9 ⟨rfl, hb⟩
  have HU := Aside0.mk (HSU8.out.on hb)
  clear HSU8 KB HC1 HC2 HBK hl1 hl2 y0 y1 y2 y3 hb
  go_wp2_with fail
  obtain ⟨x0, x1, x2, x3⟩ := HU.out.cells
  refine start_ (n := 31) (S := fun w' => w'.cell? ⟨gu, 0, none⟩ = some (.int .i64 2) ∧ w'.cell? ⟨gu, 1, none⟩ = some (.slice A1 2 d1) ∧ w'.cell? ⟨gu, 2, none⟩ = some (.slice A2 2 d2) ∧ w'.cell? ⟨gu, 3, none⟩ = some (.slice A3 2 d3)) (ds := []) #[false, false, false, false, false, false, false, false, false, false, false, false, false, false, false, false, false, false, false, false, false, false, false, false, false, false, false, false, false, false, false] (by kernel_rfl) rfl rfl (⟨x0, x1, x2, x3⟩) (fun hHeld => ?_)
  refine pure_ (i := 0) (N := some 44) (v := ?_) (a' := ?_) #[true, false, false, false, false, false, false, false, false, false, false, false, false, false, false, false, false, false, false, false, false, false, false, false, false, false, false, false, false, false, false] rfl rfl (by kernel_rfl) (fun _ _ _ h => h) (Or.inl ⟨by rfl, ?_⟩) ?_ ?_
  rotate_left
  · intro w'
    go_simp
    with_reducible rfl
  rotate_left
  · simp only [Act.put, List.setIfInBounds_toArray, List.set_cons_zero, List.set_cons_succ, i64_w, i32_w]
    rfl
  refine pure_ (i := 2) (N := some 46) (v := ?_) (a' := ?_) #[true, false, true, false, false, false, false, false, false, false, false, false, false, false, false, false, false, false, false, false, false, false, false, false, false, false, false, false, false, false, false] rfl rfl (by kernel_rfl) (fun _ _ _ h => h) (Or.inl ⟨by rfl, ?_⟩) ?_ ?_
  rotate_left
  · intro w'
    go_simp
    with_reducible rfl
  rotate_left
  · simp only [Act.put, List.setIfInBounds_toArray, List.set_cons_zero, List.set_cons_succ, i64_w, i32_w]
    rfl
  refine pure_ (i := 5) (N := some 49) (v := ?_) (a' := ?_) #[true, false, true, false, false, true, false, false, false, false, false, false, false, false, false, false, false, false, false, false, false, false, false, false, false, false, false, false, false, false, false] rfl rfl (by kernel_rfl) (fun _ _ _ h => h) (Or.inl ⟨by rfl, ?_⟩) ?_ ?_
  rotate_left
  · intro w'
    go_simp
    with_reducible rfl
  rotate_left
  · simp only [Act.put, List.setIfInBounds_toArray, List.set_cons_zero, List.set_cons_succ, i64_w, i32_w]
    rfl
  refine pure_ (i := 8) (N := some 52) (v := ?_) (a' := ?_) #[true, false, true, false, false, true, false, false, true, false, false, false, false, false, false, false, false, false, false, false, false, false, false, false, false, false, false, false, false, false, false] rfl rfl (by kernel_rfl) (fun _ _ _ h => h) (Or.inl ⟨by rfl, ?_⟩) ?_ ?_
  rotate_left
  · intro w'
    go_simp
    with_reducible rfl
  rotate_left
  · simp only [Act.put, List.setIfInBounds_toArray, List.set_cons_zero, List.set_cons_succ, i64_w, i32_w]
    rfl
  refine one_ (i := 1) (N := some 45) #[true, true, true, false, false, true, false, false, true, false, false, false, false, false, false, false, false, false, false, false, false, false, false, false, false, false, false, false, false, false, false] rfl rfl (by kernel_rfl) (by decide) (fun K hK => ?_)
  have HU1 := Aside0.mk HU.out.drew
  refine call_ 13 #[.int .i64 0] (by rfl) rfl ?_ ?_
  · go_simp
  refine (lexpriorlaw12_num.calls 0 0 _ rfl).mono ?_
  rintro e wa ⟨rfl, hd⟩
  refine ⟨_, rfl, ?_⟩
  have HUa := Aside0.mk (HU1.out.on (drawn_below hd))
  refine hK.out _ _ (HUa.out.cells) (fun hHeld => ?_)
  clear hK K
  refine norm_ (a' := ?_) ?_ ?_
  rotate_left
  · show Act.put _ (some 45) _ = _
    simp only [Act.put, List.setIfInBounds_toArray, List.set_cons_zero, List.set_cons_succ, i64_w, i32_w]
    rfl
  refine one_ (i := 3) (N := some 47) #[true, true, true, true, false, true, false, false, true, false, false, false, false, false, false, false, false, false, false, false, false, false, false, false, false, false, false, false, false, false, false] rfl rfl (by kernel_rfl) (by decide) (fun K hK => ?_)
  refine call_ 13 #[.int .i64 0] (by rfl) rfl ?_ ?_
  · go_simp
  refine (lexpriorlaw12_num.calls 0 0 _ rfl).mono ?_
  rintro e wb ⟨rfl, hd⟩
  refine ⟨_, rfl, ?_⟩
  have HUb := Aside0.mk (HUa.out.on (drawn_below hd))
  refine hK.out _ _ (HUb.out.cells) (fun hHeld => ?_)
  clear hK K
  refine norm_ (a' := ?_) ?_ ?_
  rotate_left
  · show Act.put _ (some 47) _ = _
    simp only [Act.put, List.setIfInBounds_toArray, List.set_cons_zero, List.set_cons_succ, i64_w, i32_w]
    rfl
  refine pure_ (i := 4) (N := some 48) (v := ?_) (a' := ?_) #[true, true, true, true, true, true, false, false, true, false, false, false, false, false, false, false, false, false, false, false, false, false, false, false, false, false, false, false, false, false, false] rfl rfl (by kernel_rfl) (fun _ _ _ h => h) (Or.inl ⟨by rfl, ?_⟩) ?_ ?_
  rotate_left
  · intro w'
    go_simp
    with_reducible rfl
  rotate_left
  · simp only [Act.put, List.setIfInBounds_toArray, List.set_cons_zero, List.set_cons_succ, i64_w, i32_w]
    rfl
  refine one_ (i := 6) (N := some 50) #[true, true, true, true, true, true, true, false, true, false, false, false, false, false, false, false, false, false, false, false, false, false, false, false, false, false, false, false, false, false, false] rfl rfl (by kernel_rfl) (by decide) (fun K hK => ?_)
  refine call_ 13 #[.int .i64 0] (by rfl) rfl ?_ ?_
  · go_simp
  refine (lexpriorlaw12_num.calls 0 0 _ rfl).mono ?_
  rintro e wc ⟨rfl, hd⟩
  refine ⟨_, rfl, ?_⟩
  have HUc := Aside0.mk (HUb.out.on (drawn_below hd))
  refine hK.out _ _ (HUc.out.cells) (fun hHeld => ?_)
  clear hK K
  refine norm_ (a' := ?_) ?_ ?_
  rotate_left
  · show Act.put _ (some 50) _ = _
    simp only [Act.put, List.setIfInBounds_toArray, List.set_cons_zero, List.set_cons_succ, i64_w, i32_w]
    rfl
  refine pure_ (i := 7) (N := some 51) (v := ?_) (a' := ?_) #[true, true, true, true, true, true, true, true, true, false, false, false, false, false, false, false, false, false, false, false, false, false, false, false, false, false, false, false, false, false, false] rfl rfl (by kernel_rfl) (fun _ _ _ h => h) (Or.inl ⟨by rfl, ?_⟩) ?_ ?_
  rotate_left
  · intro w'
    go_simp
    with_reducible rfl
  rotate_left
  · simp only [Act.put, List.setIfInBounds_toArray, List.set_cons_zero, List.set_cons_succ, i64_w, i32_w]
    rfl
  refine one_ (i := 9) (N := some 53) #[true, true, true, true, true, true, true, true, true, true, false, false, false, false, false, false, false, false, false, false, false, false, false, false, false, false, false, false, false, false, false] rfl rfl (by kernel_rfl) (by decide) (fun K hK => ?_)
  refine call_ 13 #[.int .i64 0] (by rfl) rfl ?_ ?_
  · go_simp
  refine (lexpriorlaw12_num.calls 0 0 _ rfl).mono ?_
  rintro e wd ⟨rfl, hd⟩
  refine ⟨_, rfl, ?_⟩
  have HUd := Aside0.mk (HUc.out.on (drawn_below hd))
  refine hK.out _ _ (HUd.out.cells) (fun hHeld => ?_)
  clear hK K
  refine norm_ (a' := ?_) ?_ ?_
  rotate_left
  · show Act.put _ (some 53) _ = _
    simp only [Act.put, List.setIfInBounds_toArray, List.set_cons_zero, List.set_cons_succ, i64_w, i32_w]
    rfl
  refine pure_ (i := 10) (N := some 54) (v := ?_) (a' := ?_) #[true, true, true, true, true, true, true, true, true, true, true, false, false, false, false, false, false, false, false, false, false, false, false, false, false, false, false, false, false, false, false] rfl rfl (by kernel_rfl) (fun _ _ _ h => h) (Or.inl ⟨by rfl, ?_⟩) ?_ ?_
  rotate_left
  · intro w'
    go_simp
    with_reducible rfl
  rotate_left
  · simp only [Act.put, List.setIfInBounds_toArray, List.set_cons_zero, List.set_cons_succ, i64_w, i32_w]
    rfl
  refine pure_ (i := 11) (N := some 55) (v := ?_) (a' := ?_) #[true, true, true, true, true, true, true, true, true, true, true, true, false, false, false, false, false, false, false, false, false, false, false, false, false, false, false, false, false, false, false] rfl rfl (by kernel_rfl) (fun _ _ _ h => h) (Or.inl ⟨by rfl, ?_⟩) ?_ ?_
  rotate_left
  · intro w'
    go_simp
    with_reducible rfl
  rotate_left
  · simp only [Act.put, List.setIfInBounds_toArray, List.set_cons_zero, List.set_cons_succ, i64_w, i32_w]
    rfl
  refine pure_ (i := 12) (N := some 56) (v := ?_) (a' := ?_) #[true, true, true, true, true, true, true, true, true, true, true, true, true, false, false, false, false, false, false, false, false, false, false, false, false, false, false, false, false, false, false] rfl rfl (by kernel_rfl) (fun _ _ _ h => h) (Or.inl ⟨by rfl, ?_⟩) ?_ ?_
  rotate_left
  · intro w'
    go_simp
    with_reducible rfl
  rotate_left
  · simp only [Act.put, List.setIfInBounds_toArray, List.set_cons_zero, List.set_cons_succ, i64_w, i32_w]
    rfl
  refine pure_ (i := 13) (N := some 57) (v := ?_) (a' := ?_) #[true, true, true, true, true, true, true, true, true, true, true, true, true, true, false, false, false, false, false, false, false, false, false, false, false, false, false, false, false, false, false] rfl rfl (by kernel_rfl) (fun _ _ _ h => h) (Or.inl ⟨by kernel_rfl, ?_⟩) ?_ ?_
  rotate_left
  · intro w'
    go_simp
    with_reducible rfl
  rotate_left
  · simp only [Act.put, List.setIfInBounds_toArray, List.set_cons_zero, List.set_cons_succ, i64_w, i32_w]
    rfl
  refine pure_ (i := 14) (N := some 58) (v := ?_) (a' := ?_) #[true, true, true, true, true, true, true, true, true, true, true, true, true, true, true, false, false, false, false, false, false, false, false, false, false, false, false, false, false, false, false] rfl rfl (by kernel_rfl) (fun _ _ _ h => h) (Or.inl ⟨by kernel_rfl, ?_⟩) ?_ ?_
  rotate_left
  · intro w'
    go_simp
    with_reducible rfl
  rotate_left
  · simp only [Act.put, List.setIfInBounds_toArray, List.set_cons_zero, List.set_cons_succ, i64_w, i32_w]
    rfl
  refine one_ (i := 15) (N := some 59) #[true, true, true, true, true, true, true, true, true, true, true, true, true, true, true, true, false, false, false, false, false, false, false, false, false, false, false, false, false, false, false] rfl rfl (by kernel_rfl) (by decide) (fun K hK => ?_)
  refine value_ (w1 := ?_) (v := ?_) (by rfl) rfl ?_ ?_
  rotate_left 2
  · go_simp
    constructor
    · rfl
    · rfl
  refine hK.out _ _ (HUd.out.cells) (fun hHeld => ?_)
  clear hK K
  refine norm_ (a' := ?_) ?_ ?_
  rotate_left
  · show Act.put _ (some 59) _ = _
    simp only [Act.put, List.setIfInBounds_toArray, List.set_cons_zero, List.set_cons_succ, i64_w, i32_w]
    rfl
  refine pure_ (i := 16) (N := some 60) (v := ?_) (a' := ?_) #[true, true, true, true, true, true, true, true, true, true, true, true, true, true, true, true, true, false, false, false, false, false, false, false, false, false, false, false, false, false, false] rfl rfl (by kernel_rfl) (fun _ _ _ h => h) (Or.inl ⟨by rfl, ?_⟩) ?_ ?_
  rotate_left
  · intro w'
    go_simp
    with_reducible rfl
  rotate_left
  · simp only [Act.put, List.setIfInBounds_toArray, List.set_cons_zero, List.set_cons_succ, i64_w, i32_w]
    rfl
  refine take_ (i := 17) (N := some 61) (v := ?_) (a' := ?_) #[true, true, true, true, true, true, true, true, true, true, true, true, true, true, true, true, true, true, false, false, false, false, false, false, false, false, false, false, false, false, false] rfl rfl (by kernel_rfl) (fun _ _ _ h => h) (Or.inl ⟨by kernel_rfl, ?_⟩) hHeld ?_ ?_
  rotate_left
  · rintro w' ⟨s0, s1, s2, s3⟩
    go_simp
    with_reducible rfl
  rotate_left
  · simp only [Act.put, List.setIfInBounds_toArray, List.set_cons_zero, List.set_cons_succ, i64_w, i32_w]
    rfl
  refine one_ (i := 18) (N := some 62) #[true, true, true, true, true, true, true, true, true, true, true, true, true, true, true, true, true, true, true, false, false, false, false, false, false, false, false, false, false, false, false] rfl rfl (by kernel_rfl) (by decide) (fun K hK => ?_)
  refine call_ 8 #[] (by kernel_rfl) rfl ?_ ?_
  · go_simp
  refine (lexpriorlaw12_two.calls _ _ _ _ wd rfl).mono ?_
  rintro e we ⟨v1, v2, v3, rfl, hN1, hN2, hN3, hb⟩
  obtain ⟨D1, t1, ev, p1, q1⟩ := Kd.N_reads hN1
  change v1 = .slice D1 2 t1 at ev
  subst ev
  obtain ⟨D2, t2, ev, p2, q2⟩ := Kd.N_reads hN2
  change v2 = .slice D2 2 t2 at ev
  subst ev
  obtain ⟨D3, t3, ev, p3, q3⟩ := Kd.N_reads hN3
  change v3 = .slice D3 2 t3 at ev
  subst ev
  refine ⟨_, rfl, ?_⟩
  have HUe := Aside0.mk (HUd.out.on hb)
  have HQ := Aside0.mk (And.intro q1 (And.intro q2 q3))
  have HP := Aside0.mk (And.intro p1 (And.intro p2 p3))
  clear hN1 hN2 hN3 hb p1 p2 p3 q1 q2 q3
  refine hK.out _ _ (HUe.out.cells) (fun hHeld => ?_)
  clear hK K
  refine norm_ (a' := ?_) ?_ ?_
  rotate_left
  · show Act.put _ (some 62) _ = _
    simp only [Act.put, List.setIfInBounds_toArray, List.set_cons_zero, List.set_cons_succ, i64_w, i32_w]
    rfl
  refine one_ (i := 19) (N := some 63) #[true, true, true, true, true, true, true, true, true, true, true, true, true, true, true, true, true, true, true, true, false, false, false, false, false, false, false, false, false, false, false] rfl rfl (by kernel_rfl) (by decide) (fun K hK => ?_)
  refine call_ 14 #[.agg #[.int .i64 2, .slice A1 2 d1, .slice A2 2 d2, .slice A3 2 d3], .agg #[.int .i64 2, .slice D1 2 t1, .slice D2 2 t2, .slice D3 2 t3]] (by kernel_rfl) rfl ?_ ?_
  · go_simp
  refine (lexpriorplain_SameTheory.calls k 2 A1 d1 [[1], [0]] A2 d2 wkRs A3 d3 [[1], []] 2 D1 t1 [[1], [0]] D2 t2 wkRs D3 t3 [[1], []] true we HUe.out.c1.now HUe.out.l1 HUe.out.c2.now HUe.out.l2 HUe.out.c3.now HUe.out.l3 HQ.out.1 HP.out.1 HQ.out.2.1 HP.out.2.1 HQ.out.2.2 HP.out.2.2 HC.out.2.2).mono ?_
  rintro e wf ⟨rfl, hb⟩
  refine ⟨_, rfl, ?_⟩
  have HUf := Aside0.mk (HUe.out.on hb)
  clear hb
  refine hK.out _ _ (HUf.out.cells) (fun hHeld => ?_)
  clear hK K
  refine norm_ (a' := ?_) ?_ ?_
  rotate_left
  · show Act.put _ (some 63) _ = _
    simp only [Act.put, List.setIfInBounds_toArray, List.set_cons_zero, List.set_cons_succ, i64_w, i32_w]
    rfl
  refine one_ (i := 20) (N := some 64) #[true, true, true, true, true, true, true, true, true, true, true, true, true, true, true, true, true, true, true, true, true, false, false, false, false, false, false, false, false, false, false] rfl rfl (by kernel_rfl) (by decide) (fun K hK => ?_)
  refine value_ (w1 := ?_) (v := ?_) (by rfl) rfl ?_ ?_
  rotate_left 2
  · go_simp
    constructor
    · rfl
    · rfl
  refine hK.out _ _ (HUf.out.cells) (fun hHeld => ?_)
  clear hK K
  refine norm_ (a' := ?_) ?_ ?_
  rotate_left
  · show Act.put _ (some 64) _ = _
    simp only [Act.put, List.setIfInBounds_toArray, List.set_cons_zero, List.set_cons_succ, i64_w, i32_w]
    rfl
  refine pure_ (i := 21) (N := some 65) (v := ?_) (a' := ?_) #[true, true, true, true, true, true, true, true, true, true, true, true, true, true, true, true, true, true, true, true, true, true, false, false, false, false, false, false, false, false, false] rfl rfl (by kernel_rfl) (fun _ _ _ h => h) (Or.inl ⟨by rfl, ?_⟩) ?_ ?_
  rotate_left
  · intro w'
    go_simp
    with_reducible rfl
  rotate_left
  · simp only [Act.put, List.setIfInBounds_toArray, List.set_cons_zero, List.set_cons_succ, i64_w, i32_w]
    rfl
  refine pure_ (i := 22) (N := some 66) (v := ?_) (a' := ?_) #[true, true, true, true, true, true, true, true, true, true, true, true, true, true, true, true, true, true, true, true, true, true, true, false, false, false, false, false, false, false, false] rfl rfl (by kernel_rfl) (fun _ _ _ h => h) (Or.inl ⟨by kernel_rfl, ?_⟩) ?_ ?_
  rotate_left
  · intro w'
    go_simp
    with_reducible rfl
  rotate_left
  · simp only [Act.put, List.setIfInBounds_toArray, List.set_cons_zero, List.set_cons_succ, i64_w, i32_w]
    rfl
  refine one_ (i := 23) (N := some 67) #[true, true, true, true, true, true, true, true, true, true, true, true, true, true, true, true, true, true, true, true, true, true, true, true, false, false, false, false, false, false, false] rfl rfl (by kernel_rfl) (by decide) (fun K hK => ?_)
  refine call_ 13 #[.int .i64 131] (by kernel_rfl) rfl ?_ ?_
  · go_simp
  refine (lexpriorlaw12_num.calls 131 131 _ rfl).mono ?_
  rintro e wg ⟨rfl, hd⟩
  refine ⟨_, rfl, ?_⟩
  have HUg := Aside0.mk (HUf.out.on (drawn_below hd))
  refine hK.out _ _ (HUg.out.cells) (fun hHeld => ?_)
  clear hK K
  refine norm_ (a' := ?_) ?_ ?_
  rotate_left
  · show Act.put _ (some 67) _ = _
    simp only [Act.put, List.setIfInBounds_toArray, List.set_cons_zero, List.set_cons_succ, i64_w, i32_w]
    rfl
  refine pure_ (i := 24) (N := some 68) (v := ?_) (a' := ?_) #[true, true, true, true, true, true, true, true, true, true, true, true, true, true, true, true, true, true, true, true, true, true, true, true, true, false, false, false, false, false, false] rfl rfl (by kernel_rfl) (fun _ _ _ h => h) (Or.inl ⟨by kernel_rfl, ?_⟩) ?_ ?_
  rotate_left
  · intro w'
    go_simp
    with_reducible rfl
  rotate_left
  · simp only [Act.put, List.setIfInBounds_toArray, List.set_cons_zero, List.set_cons_succ, i64_w, i32_w]
    rfl
  refine one_ (i := 25) (N := some 69) #[true, true, true, true, true, true, true, true, true, true, true, true, true, true, true, true, true, true, true, true, true, true, true, true, true, true, false, false, false, false, false] rfl rfl (by kernel_rfl) (by decide) (fun K hK => ?_)
  refine value_ (w1 := ?_) (v := ?_) (by rfl) rfl ?_ ?_
  rotate_left 2
  · go_simp
    constructor
    · rfl
    · rfl
  refine hK.out _ _ (HUg.out.cells) (fun hHeld => ?_)
  clear hK K
  refine norm_ (a' := ?_) ?_ ?_
  rotate_left
  · show Act.put _ (some 69) _ = _
    simp only [Act.put, List.setIfInBounds_toArray, List.set_cons_zero, List.set_cons_succ, i64_w, i32_w]
    rfl
  refine pure_ (i := 26) (N := some 70) (v := ?_) (a' := ?_) #[true, true, true, true, true, true, true, true, true, true, true, true, true, true, true, true, true, true, true, true, true, true, true, true, true, true, true, false, false, false, false] rfl rfl (by kernel_rfl) (fun _ _ _ h => h) (Or.inl ⟨by rfl, ?_⟩) ?_ ?_
  rotate_left
  · intro w'
    go_simp
    with_reducible rfl
  rotate_left
  · simp only [Act.put, List.setIfInBounds_toArray, List.set_cons_zero, List.set_cons_succ, i64_w, i32_w]
    rfl
  refine pure_ (i := 27) (N := some 71) (v := ?_) (a' := ?_) #[true, true, true, true, true, true, true, true, true, true, true, true, true, true, true, true, true, true, true, true, true, true, true, true, true, true, true, true, false, false, false] rfl rfl (by kernel_rfl) (fun _ _ _ h => h) (Or.inl ⟨by kernel_rfl, ?_⟩) ?_ ?_
  rotate_left
  · intro w'
    go_simp
    with_reducible rfl
  rotate_left
  · simp only [Act.put, List.setIfInBounds_toArray, List.set_cons_zero, List.set_cons_succ, i64_w, i32_w]
    rfl
  refine pure_ (i := 28) (N := some 72) (v := ?_) (a' := ?_) #[true, true, true, true, true, true, true, true, true, true, true, true, true, true, true, true, true, true, true, true, true, true, true, true, true, true, true, true, true, false, false] rfl rfl (by kernel_rfl) (fun _ _ _ h => h) (Or.inl ⟨by kernel_rfl, ?_⟩) ?_ ?_
  rotate_left
  · intro w'
    go_simp
    with_reducible rfl
  rotate_left
  · simp only [Act.put, List.setIfInBounds_toArray, List.set_cons_zero, List.set_cons_succ, i64_w, i32_w]
    rfl
  refine one_ (i := 29) (N := some 73) #[true, true, true, true, true, true, true, true, true, true, true, true, true, true, true, true, true, true, true, true, true, true, true, true, true, true, true, true, true, true, false] rfl rfl (by kernel_rfl) (by decide) (fun K hK => ?_)
  refine value_ (w1 := ?_) (v := ?_) (by rfl) rfl ?_ ?_
  rotate_left 2
  · go_simp
    constructor
    · rfl
    · rfl
  refine hK.out _ _ (HUg.out.cells) (fun hHeld => ?_)
  clear hK K
  refine norm_ (a' := ?_) ?_ ?_
  rotate_left
  · show Act.put _ (some 73) _ = _
    simp only [Act.put, List.setIfInBounds_toArray, List.set_cons_zero, List.set_cons_succ, i64_w, i32_w]
    rfl
  refine pure_ (i := 30) (N := some 0) (v := ?_) (a' := ?_) #[true, true, true, true, true, true, true, true, true, true, true, true, true, true, true, true, true, true, true, true, true, true, true, true, true, true, true, true, true, true, true] rfl rfl (by kernel_rfl) (fun _ _ _ h => h) (Or.inl ⟨by rfl, ?_⟩) ?_ ?_
  rotate_left
  · intro w'
    go_simp
    with_reducible rfl
  rotate_left
  · simp only [Act.put, List.setIfInBounds_toArray, List.set_cons_zero, List.set_cons_succ, i64_w, i32_w]
    rfl
  refine done_ (by kernel_rfl) ?_
  go_wp2_with fail
  go_ret
  exact ⟨show Ending.returned (.bool (wrap64 (wrap64 (wrap64 0)) == 0)) = _ by rw [show (wrap64 (wrap64 (wrap64 0)) == 0) = true by kernel_rfl], HUg.out.B⟩


/-! ### theory_marked: function 16 -/
def theory_marked.l0 : Nat → List Int → List Bool → Int → Int → Option (List Int)
  | 0, _, _, _, _ => none
  | k + 1, x3, x6, x7, x8 => if x8 < x7 then (if 0 ≤ x8 then (if x8 < (x6.length : Int) then (if rdOf false x6 x8 = true then (if x3.length < 17592186044416 then (theory_marked.l0 k (x3 ++ [x8]) x6 x7 (wrap64 (x8 + 1))) else (none)) else (theory_marked.l0 k x3 x6 x7 (wrap64 (x8 + 1)))) else (none)) else (none)) else (some x3)
def theory_marked.f (k : Nat) (l0 : List Bool) : Option (List Int) := theory_marked.l0 k ([] : List Int) l0 (l0.length : Int) 0
set_option maxHeartbeats 8000000 in
set_option maxRecDepth 100000 in
theorem theory_marked.calls (k : Nat) (A0 : Option Addr) (c0 : Nat) (l0 : List Bool) (r : List Int) (w : World) (hr0 : Kd.C Kd.bool w A0 l0.length l0) (hc0 : l0.length ≤ c0) (h : theory_marked.f k l0 = some r) :
    Calls Try.prog 16 #[.slice A0 l0.length c0] w fun e w' => ∃ v0_ : Value, e = .returned (v0_) ∧ Kd.R (Kd.int .i64) 3 w' w.heap.size (fun _ => True) v0_ r ∧ Below w.heap.size w w' := by
  have HR0 := Aside0.mk hr0
  have HC0 := Aside0.mk hc0
  clear hr0 hc0
  have HB := Aside0.mk (Below.refl w.heap.size w)
  have H : (theory_marked.l0 k ([] : List Int) l0 (l0.length : Int) 0) = some r := h
  clear h
  have H' := Aside0.mk H
  clear H
  go_enter Try.func16, Try.ntmps16
  go_wp2
  go_loopg [3, 8] k (fun kq v3 v8 w' => ∃ (x3_1 : List Int) (x8_1 : Int), v8 = .int .i64 x8_1 ∧ Aside0 (theory_marked.l0 kq x3_1 l0 (l0.length : Int) x8_1 = some r) ∧ Aside0 (kq ≤ k) ∧ Aside0 (Kd.R (Kd.int .i64) 3 w' w.heap.size (fun _ => True) v3 x3_1) ∧ Aside0 (Below w.heap.size w w'))
  case atStart => exact ⟨(([] : List Int)), (0), (by first | rfl | (simp; done) | (simp [*]; done)), H', ⟨Nat.le_refl _⟩, ⟨by first | exact Kd.R_nil _ _ _ _ _ | exact Kd.N_nil _ _ _ _ _ | exact Kd.V_nil _ _ _ _ _ | exact Kd.Q_nil _ _ _ _ _ | exact Kd.S_nil _ _ _ _ _⟩, ⟨by repeat (first | (with_reducible first | exact HB.out | apply below_alloc | apply pw_below_drewN | apply below_drew1) | exact HB.out)⟩⟩
  case round =>
    clear H'
    try clear c1
    obtain ⟨x3_1, x8_1, rfl, HA, HK1, HO_3, HB⟩ := hrel
    cases gk with
    | zero => exact absurd HA.out (by simp [theory_marked.l0])
    | succ k1 =>
      have H := HA.out
      clear HA
      simp only [theory_marked.l0] at H
      by_cases c2 : x8_1 < (l0.length : Int)
      · rw [if_pos c2] at H
        have c2b0 : decide (x8_1 < (l0.length : Int)) = true := decide_eq_true c2
        clear c2
        by_cases c3 : 0 ≤ x8_1
        · rw [if_pos c3] at H
          have c3b0 : decide (0 ≤ x8_1) = true := decide_eq_true c3
          clear c3
          by_cases c4 : x8_1 < (l0.length : Int)
          · rw [if_pos c4] at H
            have c4b0 : decide (x8_1 < (l0.length : Int)) = true := decide_eq_true c4
            clear c4
            obtain ⟨bq5, hbq5⟩ : ∃ b_ : Bool, b_ = (rdOf false l0 x8_1) := ⟨_, rfl⟩
            replace H : (if bq5 = true then (if x3_1.length < 17592186044416 then (theory_marked.l0 k1 (x3_1 ++ [x8_1]) l0 (l0.length : Int) (wrap64 (x8_1 + 1))) else (none)) else (theory_marked.l0 k1 x3_1 l0 (l0.length : Int) (wrap64 (x8_1 + 1)))) = some r := by rw [← hbq5] at H; exact H
            have Nbq5 := Aside0.mk hbq5
            clear hbq5
            by_cases c6 : bq5 = true
            · subst c6
              have H1 : (if x3_1.length < 17592186044416 then (theory_marked.l0 k1 (x3_1 ++ [x8_1]) l0 (l0.length : Int) (wrap64 (x8_1 + 1))) else (none)) = some r := by rw [if_pos rfl] at H; exact H
              clear H
              have H := H1
              clear H1
              by_cases c7 : x3_1.length < 17592186044416
              · rw [if_pos c7] at H
                have LMc7 := Aside0.mk c7
                clear c7
                obtain ⟨y199, hy199⟩ : ∃ y_ : List Int, y_ = (x3_1 ++ [x8_1]) := ⟨_, rfl⟩
                replace H : (theory_marked.l0 k1 y199 l0 (l0.length : Int) (wrap64 (x8_1 + 1))) = some r := by first | (rw [hy199]; with_reducible exact H) | (have H2_ := (Option.bind_some _ _).symm.trans H; rw [hy199]; with_reducible exact H2_) | (have H2_ := (Option.bind_some _ _).symm.trans H; with_reducible exact H2_) | with_reducible exact H | (rw [hy199]; exact H) | exact H
                have Ny199 := Aside0.mk hy199
                clear hy199
                have H' := Aside0.mk H
                clear H
                have p198 : 0 ≤ (x8_1 : Int) := of_decide_eq_true (by first | (with_reducible assumption) | assumption)
                have q198 : x8_1 < (l0.length : Int) := of_decide_eq_true (by first | (with_reducible assumption) | assumption)
                obtain ⟨ad198, e198, hx198_0⟩ := Kd.at_bool HR0.out x8_1 p198 q198
                (try rw [← Nbq5.out] at hx198_0)
                cases e198
                replace hx198_0 := (HB.out.cell (World.block_lt_of_cell? w _ hx198_0)).trans hx198_0
                replace p198 := eq_true p198
                replace q198 := eq_true q198
                go_wp2_with (first | ((with_reducible refine gate_builtin (b := .append) (xs := #[.tmp 14, .tmp 16]) rfl ?_); at_builtin; refine Kd.R_append (Kd.int .i64) (w0 := w) w.heap.size rfl (.tmp 14) (.tmp 16) 26 3 (.int .i64 0) 8 rfl Try.underlying26 info3 rfl (by decide) (by omega) u3 x3_1 x8_1 [.int .i64 x8_1] (fun _ => True) (fun _ => False) rfl rfl ?aP (fun _ hk => hk.elim) ?aF ?aO ?aB ?aS ?aL ?_; (case aP => exact rfl); (case aB => exact (by repeat (first | (with_reducible first | exact HB.out | apply below_alloc | apply pw_below_drewN | apply below_drew1) | exact HB.out))); (case aF => exact (fun _ _ => trivial)); (case aO => exact (by (with_reducible repeat (first | apply Kd.R_alloc | apply Kd.R_drewN | apply Kd.R_drew)); exact HO_3.out)); (case aS => exact (below_size (by repeat (first | (with_reducible first | exact HB.out | apply below_alloc | apply pw_below_drewN | apply below_drew1) | exact HB.out)))); (case aL => have := LMc7.out; omega); intro v200 w8 ho hb hg hat; rw [← Ny199.out] at ho; have n0_ := Aside0.mk (hb); have n1_ := Aside0.mk (ho); clear HB; clear HO_3; have HB := n0_; have HO201 := n1_; clear n0_ n1_; clear ho hb hg hat))
                go_roundg k1
                case measure => have := HK1.out; omega
                case rel => exact ⟨(y199), (wrap64 (x8_1 + 1)), (by first | rfl | (simp; done) | (simp [*]; done)), H', ⟨by have := HK1.out; omega⟩, ⟨by (with_reducible repeat (first | apply Kd.R_alloc | apply Kd.R_drewN | apply Kd.R_drew)); exact HO201.out⟩, ⟨by repeat (first | (with_reducible first | exact HB.out | apply below_alloc | apply pw_below_drewN | apply below_drew1) | exact HB.out)⟩⟩
              · rw [if_neg c7] at H
                exact absurd H (by simp)
            · replace c6 := Bool.eq_false_iff.mpr c6
              subst c6
              have H1 : (theory_marked.l0 k1 x3_1 l0 (l0.length : Int) (wrap64 (x8_1 + 1))) = some r := by rw [if_neg (show ¬ (false = true) by decide)] at H; exact H
              clear H
              have H := H1
              clear H1
              have H' := Aside0.mk H
              clear H
              have p198 : 0 ≤ (x8_1 : Int) := of_decide_eq_true (by first | (with_reducible assumption) | assumption)
              have q198 : x8_1 < (l0.length : Int) := of_decide_eq_true (by first | (with_reducible assumption) | assumption)
              obtain ⟨ad198, e198, hx198_0⟩ := Kd.at_bool HR0.out x8_1 p198 q198
              (try rw [← Nbq5.out] at hx198_0)
              cases e198
              replace hx198_0 := (HB.out.cell (World.block_lt_of_cell? w _ hx198_0)).trans hx198_0
              replace p198 := eq_true p198
              replace q198 := eq_true q198
              go_wp2
              go_roundg k1
              case measure => have := HK1.out; omega
              case rel => exact ⟨(x3_1), (wrap64 (x8_1 + 1)), (by first | rfl | (simp; done) | (simp [*]; done)), H', ⟨by have := HK1.out; omega⟩, ⟨by (with_reducible repeat (first | apply Kd.R_alloc | apply Kd.R_drewN | apply Kd.R_drew)); exact HO_3.out⟩, ⟨by repeat (first | (with_reducible first | exact HB.out | apply below_alloc | apply pw_below_drewN | apply below_drew1) | exact HB.out)⟩⟩
          · rw [if_neg c4] at H
            exact absurd H (by simp)
        · rw [if_neg c3] at H
          exact absurd H (by simp)
      · rw [if_neg c2] at H
        have c2b0 : decide (x8_1 < (l0.length : Int)) = false := decide_eq_false c2
        clear c2
        obtain rfl := Option.some.inj H
        go_wp2
        go_ret
        exact ⟨_, by first | rfl | (simp [errW_none, errW_some] <;> rfl) | (simp [*, errW_none, errW_some] <;> rfl), by (with_reducible repeat (first | apply Kd.R_alloc | apply Kd.R_drewN | apply Kd.R_drew)); exact HO_3.out, by repeat (first | (with_reducible first | exact HB.out | apply below_alloc | apply pw_below_drewN | apply below_drew1) | exact HB.out)⟩

end Go.Proofs.Ytpcaonkahhbgfaa.P
