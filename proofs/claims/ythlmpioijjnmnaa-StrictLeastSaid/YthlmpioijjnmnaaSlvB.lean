/- The solver of strict rules: 'solve'. -/
import Derived.Test.YthlmpioijjnmnaaSlvW
namespace Go.Proofs.Ythlmpioijjnmnaa.P
open Go.RowKit Go.Proofs.YthlmpioijjnmnaaW.PrintWords Go.Proofs.YthlmpioijjnmnaaW.PrintLast Go.Proofs.YthlmpioijjnmnaaW.PrintMore Go.Proofs.Ythlmpioijjnmnaa.K
set_option linter.unusedVariables false
set_option linter.unusedSimpArgs false

def solve2.T : Bool × List (List Nat × List Nat) := (true, [([], []), ([], []), ([1, 1], [1]), ([], []), ([3, 3], [3]), ([], []), ([5, 5], [5]), ([], []), ([7], [7]), ([8], [8]), ([9, 9], [9]), ([], []), ([11], [11]), ([12], [12]), ([13, 13], [13]), ([], []), ([15, 15], [15]), ([], []), ([17, 17], [17]), ([], []), ([19, 19], [19]), ([], []), ([21, 21], [21]), ([0, 2, 4, 6, 10, 14, 16, 18, 20, 22], [0, 2, 4, 6, 10, 14, 16, 18, 20, 22]), ([23], [23]), ([], []), ([25, 24, 0, 1, 2, 3, 4, 5, 6, 7, 8, 9, 10, 11, 12, 13, 14, 15, 16, 17, 18, 19, 20, 21, 22, 23, 24, 25], [24, 25])])
def solve2.B : List Nat := [0, 0, 2, 0, 8, 0, 32, 0, 128, 384, 896, 0, 2048, 6144, 14336, 0, 32768, 0, 131072, 0, 524288, 0, 2097152, 8388607, 16777215, 0, 67108863]
theorem solve2.tab : rtab .any (opsOf Try.f28 2) = solve2.T := by kernel_rfl
theorem solve2.bits : waitsOk solve2.T.2 solve2.B = true := by kernel_rfl
attribute [local go_sem] Oper.semAt_some
/-- Behind 'solve': the solver stands. -/
def SolvePost (w : World) (n m : Nat) (v1 v3 : Value) (A2 : Option Addr) (c2 : Nat) (s' : SV) (e : Ending) (w' : World) : Prop :=
  ∃ (w0 : World) (ℓ : Nat → Nat) (B : SvB) (vt : Value) (vi vr : List Value), e = .returned (.pointer (some ⟨B.gs, 0, none⟩)) ∧ SvS w0 w' ℓ B n m ⟨.int .i64 n, v1, .slice A2 m c2, v3⟩ vt vi vr s' [] [] [] ∧ Below w.heap.size w w0 ∧ Below w.heap.size w w'
theorem SvS.put {w0 W : World} {ℓ : Nat → Nat} {B : SvB} {n m : Nat} {T : TV} {vt : Value} {vi vr : List Value} {s : SV} {bx : List Nat} {ox : List Obj} {rx : List (Value × List Int)} (h : SvS w0 W ℓ B n m T vt vi vr s bx ox rx) (hox : ∀ x, x ∈ ox → x.isCells = true) {l : Nat} {o o' : Obj} (hl : w0.heap.size ≤ l) (ho : W.heap[l]? = some o) (hc : o.isCells = false) : SvS w0 (W.putObj l o') ℓ B n m T vt vi vr s bx ox rx :=
  ⟨h.M.put hl ho hc (fun x hx => by
    simp only [svOb, List.mem_cons] at hx
    rcases hx with (rfl | rfl | rfl | rfl | rfl | rfl | rfl | rfl | rfl | rfl | hx) <;> first | rfl | exact hox x hx), h.L⟩
theorem SvS.drop0 {w0 W : World} {ℓ : Nat → Nat} {B : SvB} {n m : Nat} {T : TV} {vt : Value} {vi vr : List Value} {s : SV} {bx : List Nat} {ox : List Obj} (h : SvS w0 W ℓ B n m T vt vi vr s bx ox []) : SvS w0 W ℓ B n m T vt vi vr s [] [] [] := SvS.dropBlk (bx := []) (ox := []) h
set_option maxHeartbeats 4000000 in
set_option maxRecDepth 100000 in
theorem solve_any (w : World) (n m : Nat) (hn : n ≤ 4096) (hm : m ≤ 4096) (v1 v3 : Value) (A2 : Option Addr) (c2 : Nat) (Af : Option Addr) (cf : Nat) (fs : List Int) (kd hd : Int → Int) (bd : Int → List Int) (s1 : SV) (hF : Kd.C (Kd.int .i64) w Af fs.length fs) (hR : RulesAt w A2 m kd hd bd) (h1 : factsV n fs (zeroV n m) = some s1) (s2 : SV) (h2 : rulesV n kd hd bd (irange m) s1 = some s2) (s3 : SV) (h3 : noneV n (irange n) s2 = some s3) (s' : SV) (h4 : waveV n m hd n 0 s3 = some s') :
    Calls Try.prog 28 #[.agg #[.int .i64 n, v1, .slice A2 m c2, v3], .slice Af fs.length cf] w (SolvePost w n m v1 v3 A2 c2 s') := by
  have hmxf := Kd.C_max hF
  have HF := Aside0.mk hF
  have HR := Aside0.mk hR
  have H1 := Aside0.mk h1
  have H2 := Aside0.mk h2
  have H3 := Aside0.mk h3
  have H4 := Aside0.mk h4
  clear hF hR h1 h2 h3 h4
  have MB := fun w => mk_run (P := Try.prog) 31 4 (.bool false) 1 Try.underlying31 infoB rfl n (by omega) (by omega) w
  have MI := fun w => mk_run (P := Try.prog) 26 3 (.int .i64 0) 8 Try.underlying26 infoI rfl n (by omega) (by omega) w
  have ML := fun w => mk_run (P := Try.prog) 22 26 (.slice none 0 0) 24 Try.underlying22 infoL rfl n (by omega) (by omega) w
  have MBm := fun w => mk_run (P := Try.prog) 31 4 (.bool false) 1 Try.underlying31 infoB rfl m (by omega) (by omega) w
  have MIm := fun w => mk_run (P := Try.prog) 26 3 (.int .i64 0) 8 Try.underlying26 infoI rfl m (by omega) (by omega) w
  refine (callsIn_wide (n := 9)).1 (callsIn_of_wp_marks Try.func28 rfl trivial ?_)
  refine wpIn_mono (wpIn_wide.2 ?_) noPanic_le
  simp only [Try.ntmps28, List.size_toArray, List.length_cons, List.length_nil, Nat.reduceAdd, Nat.reduceSub, Array.replicate_succ, Array.replicate_zero, List.push_toArray, List.append_toArray, List.nil_append, List.cons_append]
  go_wp2_with fail
  have hgt := blk_new w (.cells #[.int .i64 n, v1, .slice A2 m c2, v3] 25 (0, 0))
  obtain ⟨w0, hw0⟩ : ∃ w0, w0 = w.alloc (.cells #[.int .i64 n, v1, .slice A2 m c2, v3] 25 (0, 0)) := ⟨_, rfl⟩
  rw [← hw0] at hgt ⊢
  have HW0 := Aside0.mk hw0
  clear hw0
  obtain ⟨gt, hgtn⟩ : ∃ gt, gt = w.heap.size := ⟨_, rfl⟩
  rw [← hgtn] at hgt ⊢
  have HGT := Aside0.mk hgt
  have HGN := Aside0.mk hgtn
  clear hgt hgtn
  refine start_ (n := 27) (S := fun w' => w'.cell? ⟨gt, 0, none⟩ = some (.int .i64 n) ∧ w'.cell? ⟨gt, 1, none⟩ = some v1 ∧ w'.cell? ⟨gt, 2, none⟩ = some (.slice A2 m c2) ∧ w'.cell? ⟨gt, 3, none⟩ = some v3) (ds := []) #[false, false, false, false, false, false, false, false, false, false, false, false, false, false, false, false, false, false, false, false, false, false, false, false, false, false, false] (by kernel_rfl) rfl rfl (⟨(blk_cell (blk_below HGT.out (below_drew (Below.refl _ _))) 0).trans rfl, (blk_cell (blk_below HGT.out (below_drew (Below.refl _ _))) 1).trans rfl, (blk_cell (blk_below HGT.out (below_drew (Below.refl _ _))) 2).trans rfl, (blk_cell (blk_below HGT.out (below_drew (Below.refl _ _))) 3).trans rfl⟩) (fun hHeld => ?_)
  have HGT1 := Aside0.mk (blk_below HGT.out (below_drew (Below.refl _ _)))
  have HBD := Aside0.mk (below_drew (Below.refl w0.heap.size w0))
  generalize w0.drew = w1 at HGT1 HBD hHeld ⊢
  refine pure_ (i := 1) (N := some 18) (v := ?_) (a' := ?_) #[false, true, false, false, false, false, false, false, false, false, false, false, false, false, false, false, false, false, false, false, false, false, false, false, false, false, false] rfl rfl (by kernel_rfl) (fun _ _ _ h => h) (Or.inl ⟨by rfl, ?_⟩) ?_ ?_
  rotate_left
  · intro w'
    go_simp
    with_reducible rfl
  rotate_left
  · simp only [Act.put, List.setIfInBounds_toArray, List.set_cons_zero, List.set_cons_succ, i64_w, i32_w]
    rfl
  refine pure_ (i := 3) (N := some 20) (v := ?_) (a' := ?_) #[false, true, false, true, false, false, false, false, false, false, false, false, false, false, false, false, false, false, false, false, false, false, false, false, false, false, false] rfl rfl (by kernel_rfl) (fun _ _ _ h => h) (Or.inl ⟨by rfl, ?_⟩) ?_ ?_
  rotate_left
  · intro w'
    go_simp
    with_reducible rfl
  rotate_left
  · simp only [Act.put, List.setIfInBounds_toArray, List.set_cons_zero, List.set_cons_succ, i64_w, i32_w]
    rfl
  refine pure_ (i := 5) (N := some 22) (v := ?_) (a' := ?_) #[false, true, false, true, false, true, false, false, false, false, false, false, false, false, false, false, false, false, false, false, false, false, false, false, false, false, false] rfl rfl (by kernel_rfl) (fun _ _ _ h => h) (Or.inl ⟨by rfl, ?_⟩) ?_ ?_
  rotate_left
  · intro w'
    go_simp
    with_reducible rfl
  rotate_left
  · simp only [Act.put, List.setIfInBounds_toArray, List.set_cons_zero, List.set_cons_succ, i64_w, i32_w]
    rfl
  refine pure_ (i := 7) (N := some 24) (v := ?_) (a' := ?_) #[false, true, false, true, false, true, false, true, false, false, false, false, false, false, false, false, false, false, false, false, false, false, false, false, false, false, false] rfl rfl (by kernel_rfl) (fun _ _ _ h => h) (Or.inl ⟨by rfl, ?_⟩) ?_ ?_
  rotate_left
  · intro w'
    go_simp
    with_reducible rfl
  rotate_left
  · simp only [Act.put, List.setIfInBounds_toArray, List.set_cons_zero, List.set_cons_succ, i64_w, i32_w]
    rfl
  refine pure_ (i := 11) (N := some 28) (v := ?_) (a' := ?_) #[false, true, false, true, false, true, false, true, false, false, false, true, false, false, false, false, false, false, false, false, false, false, false, false, false, false, false] rfl rfl (by kernel_rfl) (fun _ _ _ h => h) (Or.inl ⟨by rfl, ?_⟩) ?_ ?_
  rotate_left
  · intro w'
    go_simp
    with_reducible rfl
  rotate_left
  · simp only [Act.put, List.setIfInBounds_toArray, List.set_cons_zero, List.set_cons_succ, i64_w, i32_w]
    rfl
  refine pure_ (i := 15) (N := some 32) (v := ?_) (a' := ?_) #[false, true, false, true, false, true, false, true, false, false, false, true, false, false, false, true, false, false, false, false, false, false, false, false, false, false, false] rfl rfl (by kernel_rfl) (fun _ _ _ h => h) (Or.inl ⟨by rfl, ?_⟩) ?_ ?_
  rotate_left
  · intro w'
    go_simp
    with_reducible rfl
  rotate_left
  · simp only [Act.put, List.setIfInBounds_toArray, List.set_cons_zero, List.set_cons_succ, i64_w, i32_w]
    rfl
  refine pure_ (i := 17) (N := some 34) (v := ?_) (a' := ?_) #[false, true, false, true, false, true, false, true, false, false, false, true, false, false, false, true, false, true, false, false, false, false, false, false, false, false, false] rfl rfl (by kernel_rfl) (fun _ _ _ h => h) (Or.inl ⟨by rfl, ?_⟩) ?_ ?_
  rotate_left
  · intro w'
    go_simp
    with_reducible rfl
  rotate_left
  · simp only [Act.put, List.setIfInBounds_toArray, List.set_cons_zero, List.set_cons_succ, i64_w, i32_w]
    rfl
  refine pure_ (i := 19) (N := some 36) (v := ?_) (a' := ?_) #[false, true, false, true, false, true, false, true, false, false, false, true, false, false, false, true, false, true, false, true, false, false, false, false, false, false, false] rfl rfl (by kernel_rfl) (fun _ _ _ h => h) (Or.inl ⟨by rfl, ?_⟩) ?_ ?_
  rotate_left
  · intro w'
    go_simp
    with_reducible rfl
  rotate_left
  · simp only [Act.put, List.setIfInBounds_toArray, List.set_cons_zero, List.set_cons_succ, i64_w, i32_w]
    rfl
  refine pure_ (i := 21) (N := some 38) (v := ?_) (a' := ?_) #[false, true, false, true, false, true, false, true, false, false, false, true, false, false, false, true, false, true, false, true, false, true, false, false, false, false, false] rfl rfl (by kernel_rfl) (fun _ _ _ h => h) (Or.inl ⟨by rfl, ?_⟩) ?_ ?_
  rotate_left
  · intro w'
    go_simp
    with_reducible rfl
  rotate_left
  · simp only [Act.put, List.setIfInBounds_toArray, List.set_cons_zero, List.set_cons_succ, i64_w, i32_w]
    rfl
  refine take_ (i := 0) (N := some 17) (v := ?_) (a' := ?_) #[true, true, false, true, false, true, false, true, false, false, false, true, false, false, false, true, false, true, false, true, false, true, false, false, false, false, false] rfl rfl (by kernel_rfl) (fun _ _ _ h => h) (Or.inl ⟨by rfl, ?_⟩) hHeld ?_ ?_
  rotate_left
  · rintro w' ⟨s0, s1, s2, s3⟩
    go_simp
    with_reducible rfl
  rotate_left
  · simp only [Act.put, List.setIfInBounds_toArray, List.set_cons_zero, List.set_cons_succ, i64_w, i32_w]
    rfl
  refine take_ (i := 8) (N := some 25) (v := ?_) (a' := ?_) #[true, true, false, true, false, true, false, true, true, false, false, true, false, false, false, true, false, true, false, true, false, true, false, false, false, false, false] rfl rfl (by kernel_rfl) (fun _ _ _ h => h) (Or.inl ⟨by rfl, ?_⟩) hHeld ?_ ?_
  rotate_left
  · rintro w' ⟨s0, s1, s2, s3⟩
    go_simp
    with_reducible rfl
  rotate_left
  · simp only [Act.put, List.setIfInBounds_toArray, List.set_cons_zero, List.set_cons_succ, i64_w, i32_w]
    rfl
  refine pure_ (i := 9) (N := some 26) (v := ?_) (a' := ?_) #[true, true, false, true, false, true, false, true, true, true, false, true, false, false, false, true, false, true, false, true, false, true, false, false, false, false, false] rfl rfl (by kernel_rfl) (fun _ _ _ h => h) (Or.inl ⟨by rfl, ?_⟩) ?_ ?_
  rotate_left
  · intro w'
    go_simp
    with_reducible rfl
  rotate_left
  · simp only [Act.put, List.setIfInBounds_toArray, List.set_cons_zero, List.set_cons_succ, i64_w, i32_w]
    rfl
  refine take_ (i := 12) (N := some 29) (v := ?_) (a' := ?_) #[true, true, false, true, false, true, false, true, true, true, false, true, true, false, false, true, false, true, false, true, false, true, false, false, false, false, false] rfl rfl (by kernel_rfl) (fun _ _ _ h => h) (Or.inl ⟨by rfl, ?_⟩) hHeld ?_ ?_
  rotate_left
  · rintro w' ⟨s0, s1, s2, s3⟩
    go_simp
    with_reducible rfl
  rotate_left
  · simp only [Act.put, List.setIfInBounds_toArray, List.set_cons_zero, List.set_cons_succ, i64_w, i32_w]
    rfl
  refine pure_ (i := 13) (N := some 30) (v := ?_) (a' := ?_) #[true, true, false, true, false, true, false, true, true, true, false, true, true, true, false, true, false, true, false, true, false, true, false, false, false, false, false] rfl rfl (by kernel_rfl) (fun _ _ _ h => h) (Or.inl ⟨by rfl, ?_⟩) ?_ ?_
  rotate_left
  · intro w'
    go_simp
    with_reducible rfl
  rotate_left
  · simp only [Act.put, List.setIfInBounds_toArray, List.set_cons_zero, List.set_cons_succ, i64_w, i32_w]
    rfl
  -- now #[true, true, false, true, false, true, false, true, true, true, false, true, true, true, false, true, false, true, false, true, false, true, false, false, false, false, false]
  refine join_ (σ := SvB × Nat) 0 #[true, true, true, true, true, true, true, true, true, true, true, true, true, true, true, true, true, true, true, true, true, true, true, true, true, true, true] (fun s => [(19, sl n s.1.fa), (21, sl n s.1.bi), (23, sl n s.1.br), (27, sl m s.1.ne), (31, sl m s.1.de), (33, sl n s.1.le), (35, sl n s.1.pl), (37, sl n s.1.mi), (39, sl n s.1.he),
    (40, .agg #[.int .i64 n, v1, .slice A2 m c2, v3, sl n s.1.fa, sl n s.1.bi, sl n s.1.br, sl m s.1.ne, sl m s.1.de, sl n s.1.le, sl n s.1.pl, sl n s.1.mi, sl n s.1.he, .slice none 0 0]), (41, .pointer (some ⟨s.1.gs, 0, none⟩)), (6, .pointer (some ⟨s.2, 0, none⟩))])
    (fun s w' => ∃ ℓ, SvS w0 w' ℓ s.1 n m ⟨.int .i64 n, v1, .slice A2 m c2, v3⟩ (.slice none 0 0) (List.replicate n (.slice none 0 0)) (List.replicate n (.slice none 0 0)) (zeroV n m) [s.2] [.cells #[.pointer (some ⟨s.1.gs, 0, none⟩)] 44 (0, 0)] []) ?_ ?_
  rotate_left
  · intro hcont
    have HC := Aside0.mk hcont
    clear hcont
    have HSO : ∀ w', Below w1.heap.size w1 w' → w'.cell? ⟨gt, 0, none⟩ = some (.int .i64 n) ∧ w'.cell? ⟨gt, 1, none⟩ = some v1 ∧ w'.cell? ⟨gt, 2, none⟩ = some (.slice A2 m c2) ∧ w'.cell? ⟨gt, 3, none⟩ = some v3 := fun w' hb => ⟨(blk_cell (blk_below HGT1.out hb) 0).trans rfl, (blk_cell (blk_below HGT1.out hb) 1).trans rfl, (blk_cell (blk_below HGT1.out hb) 2).trans rfl, (blk_cell (blk_below HGT1.out hb) 3).trans rfl⟩
    refine many_ (fuel' := 3) (slvM n m ++ [slvX]) #[true, true, true, true, true, true, true, true, true, true, true, true, true, true, true, true, true, true, true, true, true, true, true, false, false, true, false] 25 (by kernel_rfl) (show [2, 4, 6, 10, 14, 16, 18, 20, 22, 25].Nodup by decide) (show [19, 21, 23, 27, 31, 33, 35, 37, 39, 6].Nodup by decide) rfl (by kernel_rfl) solve2.tab (by kernel_rfl) ?_ HSO ?_ ?_
    · intro k hk
      simp only [slvM, slvX, List.mem_append, List.mem_cons, List.not_mem_nil, or_false] at hk
      rcases hk with (rfl | rfl | rfl | rfl | rfl | rfl | rfl | rfl | rfl) | rfl
      · exact ⟨_, rfl, rfl, rfl, fun a' w' ht => exec_make rfl (eval_at (ht 18 (show 18 ∉ [19, 21, 23, 27, 31, 33, 35, 37, 39, 6] by decide)) rfl) (eval_at (ht 18 (show 18 ∉ [19, 21, 23, 27, 31, 33, 35, 37, 39, 6] by decide)) rfl) (MB w')⟩
      · exact ⟨_, rfl, rfl, rfl, fun a' w' ht => exec_make rfl (eval_at (ht 20 (show 20 ∉ [19, 21, 23, 27, 31, 33, 35, 37, 39, 6] by decide)) rfl) (eval_at (ht 20 (show 20 ∉ [19, 21, 23, 27, 31, 33, 35, 37, 39, 6] by decide)) rfl) (ML w')⟩
      · exact ⟨_, rfl, rfl, rfl, fun a' w' ht => exec_make rfl (eval_at (ht 22 (show 22 ∉ [19, 21, 23, 27, 31, 33, 35, 37, 39, 6] by decide)) rfl) (eval_at (ht 22 (show 22 ∉ [19, 21, 23, 27, 31, 33, 35, 37, 39, 6] by decide)) rfl) (ML w')⟩
      · exact ⟨_, rfl, rfl, rfl, fun a' w' ht => exec_make rfl (eval_at (ht 26 (show 26 ∉ [19, 21, 23, 27, 31, 33, 35, 37, 39, 6] by decide)) rfl) (eval_at (ht 26 (show 26 ∉ [19, 21, 23, 27, 31, 33, 35, 37, 39, 6] by decide)) rfl) (MIm w')⟩
      · exact ⟨_, rfl, rfl, rfl, fun a' w' ht => exec_make rfl (eval_at (ht 30 (show 30 ∉ [19, 21, 23, 27, 31, 33, 35, 37, 39, 6] by decide)) rfl) (eval_at (ht 30 (show 30 ∉ [19, 21, 23, 27, 31, 33, 35, 37, 39, 6] by decide)) rfl) (MBm w')⟩
      · exact ⟨_, rfl, rfl, rfl, fun a' w' ht => exec_make rfl (eval_at (ht 32 (show 32 ∉ [19, 21, 23, 27, 31, 33, 35, 37, 39, 6] by decide)) rfl) (eval_at (ht 32 (show 32 ∉ [19, 21, 23, 27, 31, 33, 35, 37, 39, 6] by decide)) rfl) (MI w')⟩
      · exact ⟨_, rfl, rfl, rfl, fun a' w' ht => exec_make rfl (eval_at (ht 34 (show 34 ∉ [19, 21, 23, 27, 31, 33, 35, 37, 39, 6] by decide)) rfl) (eval_at (ht 34 (show 34 ∉ [19, 21, 23, 27, 31, 33, 35, 37, 39, 6] by decide)) rfl) (MB w')⟩
      · exact ⟨_, rfl, rfl, rfl, fun a' w' ht => exec_make rfl (eval_at (ht 36 (show 36 ∉ [19, 21, 23, 27, 31, 33, 35, 37, 39, 6] by decide)) rfl) (eval_at (ht 36 (show 36 ∉ [19, 21, 23, 27, 31, 33, 35, 37, 39, 6] by decide)) rfl) (MB w')⟩
      · exact ⟨_, rfl, rfl, rfl, fun a' w' ht => exec_make rfl (eval_at (ht 38 (show 38 ∉ [19, 21, 23, 27, 31, 33, 35, 37, 39, 6] by decide)) rfl) (eval_at (ht 38 (show 38 ∉ [19, 21, 23, 27, 31, 33, 35, 37, 39, 6] by decide)) rfl) (MI w')⟩
      · exact ⟨_, rfl, rfl, rfl, fun a' w' ht => by go_simp⟩
    · intro σ w2 h9 hd hb
      have h9' : ∀ k, k ∈ slvM n m → w2.heap[σ k.i]? = some k.ob ∧ w0.heap.size ≤ σ k.i := fun k hk => ⟨(h9 k (List.mem_append_left _ hk) (slvM_ne k hk)).1, Nat.le_trans HBD.out.size (h9 k (List.mem_append_left _ hk) (slvM_ne k hk)).2⟩
      have hd' : ∀ k k', k ∈ slvM n m → k' ∈ slvM n m → k.i ≠ k'.i → σ k.i ≠ σ k'.i := fun k k' h1 h2 => hd k k' (List.mem_append_left _ h1) (List.mem_append_left _ h2) (slvM_ne k h1) (slvM_ne k' h2)
      refine norm_ (a' := ?_) ?_ ?_
      rotate_left
      · simp only [fillA, slvM, slvX, sl, List.cons_append, List.nil_append, List.contains_nil, List.contains_cons, Bool.or_false, Nat.reduceBEq, if_false, if_true, Bool.false_eq_true, reduceIte, Act.put, List.setIfInBounds_toArray, List.set_cons_zero, List.set_cons_succ]
        rfl
      refine pure_ (i := 23) (N := some 40) (v := ?_) (a' := ?_) #[true, true, true, true, true, true, true, true, true, true, true, true, true, true, true, true, true, true, true, true, true, true, true, true, false, false, false] rfl rfl (by kernel_rfl) (fun _ _ _ h => h) (Or.inl ⟨by rfl, ?_⟩) ?_ ?_
      rotate_left
      · intro w'
        go_simp
        with_reducible rfl
      rotate_left
      · simp only [Act.put, List.setIfInBounds_toArray, List.set_cons_zero, List.set_cons_succ, i64_w, i32_w]
        rfl
      refine two_ (i := 24) (j := 25) (Ni := (some 41)) (Nj := (some 6)) #[true, true, true, true, true, true, true, true, true, true, true, true, true, true, true, true, true, true, true, true, true, true, true, true, true, false, false] #[true, true, true, true, true, true, true, true, true, true, true, true, true, true, true, true, true, true, true, true, true, true, true, true, false, true, false] rfl rfl rfl rfl (by kernel_rfl) (by decide) (by decide) (fun K hK => ?_) (fun K hK => ?_)
      · refine value_ (w1 := ?_) (v := ?_) (by rfl) rfl ?_ ?_
        rotate_left 2
        · go_simp
          constructor
          · rfl
          · rfl
        refine hK.out _ _ (HSO _ (below_alloc hb _)) (fun hHeld => ?_)
        clear hK K
        refine norm_ (a' := ?_) ?_ ?_
        rotate_left
        · show Act.put _ (some 41) _ = _
          simp only [Act.put, List.setIfInBounds_toArray, List.set_cons_zero, List.set_cons_succ, i64_w, i32_w]
          rfl
        refine one_ (i := 25) (N := some 6) #[true, true, true, true, true, true, true, true, true, true, true, true, true, true, true, true, true, true, true, true, true, true, true, true, true, true, false] rfl rfl (by kernel_rfl) (by decide) (fun K hK => ?_)
        refine value_ (w1 := ?_) (v := ?_) (by rfl) rfl ?_ ?_
        rotate_left 2
        · go_simp
          constructor
          · rfl
          · rfl
        refine hK.out _ _ (HSO _ (below_alloc (below_alloc hb _) _)) (fun hHeld => ?_)
        clear hK K
        refine norm_ (a' := ?_) ?_ ?_
        rotate_left
        · show Act.put _ (some 6) _ = _
          simp only [Act.put, List.setIfInBounds_toArray, List.set_cons_zero, List.set_cons_succ, i64_w, i32_w]
          rfl
        refine one_ (i := 26) (N := none) #[true, true, true, true, true, true, true, true, true, true, true, true, true, true, true, true, true, true, true, true, true, true, true, true, true, true, true] rfl rfl (by kernel_rfl) (by decide) (fun K hK => ?_)
        have gx := blk_new1 w2 (.cells #[.int .i64 n, v1, .slice A2 m c2, v3, .slice (some ⟨σ 2, 0, none⟩) n n, .slice (some ⟨σ 4, 0, none⟩) n n, .slice (some ⟨σ 6, 0, none⟩) n n, .slice (some ⟨σ 10, 0, none⟩) m m, .slice (some ⟨σ 14, 0, none⟩) m m, .slice (some ⟨σ 16, 0, none⟩) n n, .slice (some ⟨σ 18, 0, none⟩) n n, .slice (some ⟨σ 20, 0, none⟩) n n, .slice (some ⟨σ 22, 0, none⟩) n n, .slice none 0 0] 46 (0, 0)) (.cells #[.pointer none] 44 (0, 0))
        have HA := Aside0.mk (below_alloc (below_alloc hb (.cells #[.int .i64 n, v1, .slice A2 m c2, v3, .slice (some ⟨σ 2, 0, none⟩) n n, .slice (some ⟨σ 4, 0, none⟩) n n, .slice (some ⟨σ 6, 0, none⟩) n n, .slice (some ⟨σ 10, 0, none⟩) m m, .slice (some ⟨σ 14, 0, none⟩) m m, .slice (some ⟨σ 16, 0, none⟩) n n, .slice (some ⟨σ 18, 0, none⟩) n n, .slice (some ⟨σ 20, 0, none⟩) n n, .slice (some ⟨σ 22, 0, none⟩) n n, .slice none 0 0] 46 (0, 0))) (.cells #[.pointer none] 44 (0, 0)))
        have HG := Aside0.mk (blk_alloc (blk_new w2 (.cells #[.int .i64 n, v1, .slice A2 m c2, v3, .slice (some ⟨σ 2, 0, none⟩) n n, .slice (some ⟨σ 4, 0, none⟩) n n, .slice (some ⟨σ 6, 0, none⟩) n n, .slice (some ⟨σ 10, 0, none⟩) m m, .slice (some ⟨σ 14, 0, none⟩) m m, .slice (some ⟨σ 16, 0, none⟩) n n, .slice (some ⟨σ 18, 0, none⟩) n n, .slice (some ⟨σ 20, 0, none⟩) n n, .slice (some ⟨σ 22, 0, none⟩) n n, .slice none 0 0] 46 (0, 0))) (.cells #[.pointer none] 44 (0, 0)))
        have HL := Aside0.mk (below_alloc (below_alloc (Below.refl w2.heap.size w2) (.cells #[.int .i64 n, v1, .slice A2 m c2, v3, .slice (some ⟨σ 2, 0, none⟩) n n, .slice (some ⟨σ 4, 0, none⟩) n n, .slice (some ⟨σ 6, 0, none⟩) n n, .slice (some ⟨σ 10, 0, none⟩) m m, .slice (some ⟨σ 14, 0, none⟩) m m, .slice (some ⟨σ 16, 0, none⟩) n n, .slice (some ⟨σ 18, 0, none⟩) n n, .slice (some ⟨σ 20, 0, none⟩) n n, .slice (some ⟨σ 22, 0, none⟩) n n, .slice none 0 0] 46 (0, 0))) (.cells #[.pointer none] 44 (0, 0)))
        generalize (w2.alloc (.cells #[.int .i64 n, v1, .slice A2 m c2, v3, .slice (some ⟨σ 2, 0, none⟩) n n, .slice (some ⟨σ 4, 0, none⟩) n n, .slice (some ⟨σ 6, 0, none⟩) n n, .slice (some ⟨σ 10, 0, none⟩) m m, .slice (some ⟨σ 14, 0, none⟩) m m, .slice (some ⟨σ 16, 0, none⟩) n n, .slice (some ⟨σ 18, 0, none⟩) n n, .slice (some ⟨σ 20, 0, none⟩) n n, .slice (some ⟨σ 22, 0, none⟩) n n, .slice none 0 0] 46 (0, 0))).alloc (.cells #[.pointer none] 44 (0, 0)) = w3 at gx HA HG HL hHeld ⊢
        have fx := blk_frozen gx 0
        have cx := (blk_cell gx 0).trans rfl
        refine skip_ (w1 := ?_) (by rfl) rfl ?_ ?_
        rotate_left
        · go_simp
          rfl
        refine hK.out _ _ (HSO _ (below_set HA.out (show w1.heap.size ≤ w2.heap.size + 1 from Nat.le_succ_of_le hb.size))) (fun hHeld => ?_)
        clear hK K
        clear fx cx
        refine norm_ ?_ (HC.out (⟨w2.heap.size, σ 2, σ 4, σ 6, σ 10, σ 14, σ 16, σ 18, σ 20, σ 22⟩, w2.heap.size + 1) _ (slv_made (w0 := w0) (W0 := w2) n m v1 v3 A2 c2 σ _ _ h9' hd' (below_step HBD.out hb) HL.out HG.out gx (Nat.le_trans HBD.out.size hb.size) (Nat.le_trans HBD.out.size (Nat.le_trans hb.size (Nat.le_succ _)))
          (fun k hk => Nat.ne_of_lt (blk_lt (h9' k hk).1)) (fun k hk => Nat.ne_of_lt (Nat.lt_succ_of_lt (blk_lt (h9' k hk).1))) (Nat.ne_of_lt (Nat.lt_succ_self _))))
        simp only [putAll, sl, Act.put, List.setIfInBounds_toArray, List.set_cons_zero, List.set_cons_succ]
      · refine value_ (w1 := ?_) (v := ?_) (by rfl) rfl ?_ ?_
        rotate_left 2
        · go_simp
          constructor
          · rfl
          · rfl
        refine hK.out _ _ (HSO _ (below_alloc hb _)) (fun hHeld => ?_)
        clear hK K
        refine norm_ (a' := ?_) ?_ ?_
        rotate_left
        · show Act.put _ (some 6) _ = _
          simp only [Act.put, List.setIfInBounds_toArray, List.set_cons_zero, List.set_cons_succ, i64_w, i32_w]
          rfl
        refine one_ (i := 24) (N := some 41) #[true, true, true, true, true, true, true, true, true, true, true, true, true, true, true, true, true, true, true, true, true, true, true, true, true, true, false] rfl rfl (by kernel_rfl) (by decide) (fun K hK => ?_)
        refine value_ (w1 := ?_) (v := ?_) (by rfl) rfl ?_ ?_
        rotate_left 2
        · go_simp
          constructor
          · rfl
          · rfl
        refine hK.out _ _ (HSO _ (below_alloc (below_alloc hb _) _)) (fun hHeld => ?_)
        clear hK K
        refine norm_ (a' := ?_) ?_ ?_
        rotate_left
        · show Act.put _ (some 41) _ = _
          simp only [Act.put, List.setIfInBounds_toArray, List.set_cons_zero, List.set_cons_succ, i64_w, i32_w]
          rfl
        refine one_ (i := 26) (N := none) #[true, true, true, true, true, true, true, true, true, true, true, true, true, true, true, true, true, true, true, true, true, true, true, true, true, true, true] rfl rfl (by kernel_rfl) (by decide) (fun K hK => ?_)
        have gx := blk_alloc (blk_new w2 (.cells #[.pointer none] 44 (0, 0))) (.cells #[.int .i64 n, v1, .slice A2 m c2, v3, .slice (some ⟨σ 2, 0, none⟩) n n, .slice (some ⟨σ 4, 0, none⟩) n n, .slice (some ⟨σ 6, 0, none⟩) n n, .slice (some ⟨σ 10, 0, none⟩) m m, .slice (some ⟨σ 14, 0, none⟩) m m, .slice (some ⟨σ 16, 0, none⟩) n n, .slice (some ⟨σ 18, 0, none⟩) n n, .slice (some ⟨σ 20, 0, none⟩) n n, .slice (some ⟨σ 22, 0, none⟩) n n, .slice none 0 0] 46 (0, 0))
        have HA := Aside0.mk (below_alloc (below_alloc hb (.cells #[.pointer none] 44 (0, 0))) (.cells #[.int .i64 n, v1, .slice A2 m c2, v3, .slice (some ⟨σ 2, 0, none⟩) n n, .slice (some ⟨σ 4, 0, none⟩) n n, .slice (some ⟨σ 6, 0, none⟩) n n, .slice (some ⟨σ 10, 0, none⟩) m m, .slice (some ⟨σ 14, 0, none⟩) m m, .slice (some ⟨σ 16, 0, none⟩) n n, .slice (some ⟨σ 18, 0, none⟩) n n, .slice (some ⟨σ 20, 0, none⟩) n n, .slice (some ⟨σ 22, 0, none⟩) n n, .slice none 0 0] 46 (0, 0)))
        have HG := Aside0.mk (blk_new1 w2 (.cells #[.pointer none] 44 (0, 0)) (.cells #[.int .i64 n, v1, .slice A2 m c2, v3, .slice (some ⟨σ 2, 0, none⟩) n n, .slice (some ⟨σ 4, 0, none⟩) n n, .slice (some ⟨σ 6, 0, none⟩) n n, .slice (some ⟨σ 10, 0, none⟩) m m, .slice (some ⟨σ 14, 0, none⟩) m m, .slice (some ⟨σ 16, 0, none⟩) n n, .slice (some ⟨σ 18, 0, none⟩) n n, .slice (some ⟨σ 20, 0, none⟩) n n, .slice (some ⟨σ 22, 0, none⟩) n n, .slice none 0 0] 46 (0, 0)))
        have HL := Aside0.mk (below_alloc (below_alloc (Below.refl w2.heap.size w2) (.cells #[.pointer none] 44 (0, 0))) (.cells #[.int .i64 n, v1, .slice A2 m c2, v3, .slice (some ⟨σ 2, 0, none⟩) n n, .slice (some ⟨σ 4, 0, none⟩) n n, .slice (some ⟨σ 6, 0, none⟩) n n, .slice (some ⟨σ 10, 0, none⟩) m m, .slice (some ⟨σ 14, 0, none⟩) m m, .slice (some ⟨σ 16, 0, none⟩) n n, .slice (some ⟨σ 18, 0, none⟩) n n, .slice (some ⟨σ 20, 0, none⟩) n n, .slice (some ⟨σ 22, 0, none⟩) n n, .slice none 0 0] 46 (0, 0)))
        generalize (w2.alloc (.cells #[.pointer none] 44 (0, 0))).alloc (.cells #[.int .i64 n, v1, .slice A2 m c2, v3, .slice (some ⟨σ 2, 0, none⟩) n n, .slice (some ⟨σ 4, 0, none⟩) n n, .slice (some ⟨σ 6, 0, none⟩) n n, .slice (some ⟨σ 10, 0, none⟩) m m, .slice (some ⟨σ 14, 0, none⟩) m m, .slice (some ⟨σ 16, 0, none⟩) n n, .slice (some ⟨σ 18, 0, none⟩) n n, .slice (some ⟨σ 20, 0, none⟩) n n, .slice (some ⟨σ 22, 0, none⟩) n n, .slice none 0 0] 46 (0, 0)) = w3 at gx HA HG HL hHeld ⊢
        have fx := blk_frozen gx 0
        have cx := (blk_cell gx 0).trans rfl
        refine skip_ (w1 := ?_) (by rfl) rfl ?_ ?_
        rotate_left
        · go_simp
          rfl
        refine hK.out _ _ (HSO _ (below_set HA.out hb.size)) (fun hHeld => ?_)
        clear hK K
        clear fx cx
        refine norm_ ?_ (HC.out (⟨w2.heap.size + 1, σ 2, σ 4, σ 6, σ 10, σ 14, σ 16, σ 18, σ 20, σ 22⟩, w2.heap.size) _ (slv_made (w0 := w0) (W0 := w2) n m v1 v3 A2 c2 σ _ _ h9' hd' (below_step HBD.out hb) HL.out HG.out gx (Nat.le_trans HBD.out.size (Nat.le_trans hb.size (Nat.le_succ _))) (Nat.le_trans HBD.out.size hb.size)
          (fun k hk => Nat.ne_of_lt (Nat.lt_succ_of_lt (blk_lt (h9' k hk).1))) (fun k hk => Nat.ne_of_lt (blk_lt (h9' k hk).1)) (Nat.ne_of_gt (Nat.lt_succ_self _))))
        simp only [putAll, sl, Act.put, List.setIfInBounds_toArray, List.set_cons_zero, List.set_cons_succ]
    · intro σ w2 h9 hd hb
      have HX2 : Aside0 (w1.heap.size ≤ σ 25) := ⟨(h9 slvX (List.mem_append_right _ (List.mem_cons_self ..))).2⟩
      refine norm_ (a' := ?_) ?_ ?_
      rotate_left
      · simp only [fillA, slvM, slvX, sl, List.cons_append, List.nil_append, List.contains_nil, List.contains_cons, Bool.or_false, Nat.reduceBEq, if_false, if_true, Bool.false_eq_true, reduceIte, Act.put, List.setIfInBounds_toArray, List.set_cons_zero, List.set_cons_succ]
        rfl
      refine pure_ (i := 23) (N := some 40) (v := ?_) (a' := ?_) #[true, true, true, true, true, true, true, true, true, true, true, true, true, true, true, true, true, true, true, true, true, true, true, true, false, true, false] rfl rfl (by kernel_rfl) (fun _ _ _ h => h) (Or.inl ⟨by rfl, ?_⟩) ?_ ?_
      rotate_left
      · intro w'
        go_simp
        with_reducible rfl
      rotate_left
      · simp only [Act.put, List.setIfInBounds_toArray, List.set_cons_zero, List.set_cons_succ, i64_w, i32_w]
        rfl
      refine one_ (i := 24) (N := some 41) #[true, true, true, true, true, true, true, true, true, true, true, true, true, true, true, true, true, true, true, true, true, true, true, true, true, true, false] rfl rfl (by kernel_rfl) (by decide) (fun K hK => ?_)
      refine value_ (w1 := ?_) (v := ?_) (by rfl) rfl ?_ ?_
      rotate_left 2
      · go_simp
        constructor
        · rfl
        · rfl
      refine hK.out _ _ (HSO _ (below_alloc hb _)) (fun hHeld => ?_)
      clear hK K
      refine norm_ (a' := ?_) ?_ ?_
      rotate_left
      · show Act.put _ (some 41) _ = _
        simp only [Act.put, List.setIfInBounds_toArray, List.set_cons_zero, List.set_cons_succ, i64_w, i32_w]
        rfl
      refine one_ (i := 26) (N := none) #[true, true, true, true, true, true, true, true, true, true, true, true, true, true, true, true, true, true, true, true, true, true, true, true, true, true, true] rfl rfl (by kernel_rfl) (by decide) (fun K hK => ?_)
      have gx : w2.heap[σ 25]? = some (.cells #[.pointer none] 44 (0, 0)) := (h9 slvX (List.mem_append_right _ (List.mem_cons_self ..))).1
      have gx := blk_alloc gx (.cells #[.int .i64 n, v1, .slice A2 m c2, v3, .slice (some ⟨σ 2, 0, none⟩) n n, .slice (some ⟨σ 4, 0, none⟩) n n, .slice (some ⟨σ 6, 0, none⟩) n n, .slice (some ⟨σ 10, 0, none⟩) m m, .slice (some ⟨σ 14, 0, none⟩) m m, .slice (some ⟨σ 16, 0, none⟩) n n, .slice (some ⟨σ 18, 0, none⟩) n n, .slice (some ⟨σ 20, 0, none⟩) n n, .slice (some ⟨σ 22, 0, none⟩) n n, .slice none 0 0] 46 (0, 0))
      have fx := blk_frozen gx 0
      have cx := (blk_cell gx 0).trans rfl
      refine skip_ (w1 := ?_) (by rfl) rfl ?_ ?_
      rotate_left
      · go_simp
        rfl
      refine hK.out _ _ (HSO _ (below_set (below_alloc hb _) HX2.out)) (fun hHeld => ?_)
      clear hK K
      clear fx cx
      have h9' : ∀ k, k ∈ slvM n m → w2.heap[σ k.i]? = some k.ob ∧ w0.heap.size ≤ σ k.i := fun k hk => ⟨(h9 k (List.mem_append_left _ hk)).1, Nat.le_trans HBD.out.size (h9 k (List.mem_append_left _ hk)).2⟩
      refine norm_ ?_ (HC.out (⟨w2.heap.size, σ 2, σ 4, σ 6, σ 10, σ 14, σ 16, σ 18, σ 20, σ 22⟩, σ 25) _ (slv_made (w0 := w0) (W0 := w2) n m v1 v3 A2 c2 σ _ _ h9' (fun k k' h1 h2 => hd k k' (List.mem_append_left _ h1) (List.mem_append_left _ h2)) (below_step HBD.out hb) (below_alloc (Below.refl _ _) _) (blk_new w2 _) gx (Nat.le_trans HBD.out.size hb.size) (Nat.le_trans HBD.out.size HX2.out)
        (fun k hk => Nat.ne_of_lt (blk_lt (h9' k hk).1)) (fun k hk => hd k slvX (List.mem_append_left _ hk) (List.mem_append_right _ (List.mem_cons_self ..)) (slvM_ne k hk)) (Nat.ne_of_gt (blk_lt (h9 slvX (List.mem_append_right _ (List.mem_cons_self ..))).1))))
      simp only [putAll, sl, Act.put, List.setIfInBounds_toArray, List.set_cons_zero, List.set_cons_succ]
  rintro ⟨B, gx⟩ w2 ⟨ℓ, hS⟩
  have HS := Aside0.mk hS
  clear hS hHeld HGT1 HBD HGN MB MI ML MBm MIm
  clear w1
  refine norm_ (a' := ?_) ?_ ?_
  rotate_left
  · simp only [putAll, sl, Act.put, List.setIfInBounds_toArray, List.set_cons_zero, List.set_cons_succ]
    rfl
  refine done_ (by kernel_rfl) ?_
  as_aux_lemma =>
  have HB := Aside0.mk (below_alloc (Below.refl w.heap.size w) (.cells #[.int .i64 n, v1, .slice A2 m c2, v3] 25 (0, 0)))
  rw [← HW0.out] at HB
  clear HW0
  go_wp2_with fail
  go_loopw [44] (fun v44 wr => ∃ (j : Nat) (sj : SV) (ℓj : Nat → Nat) (vtj : Value), v44 = .int .i64 j ∧ j ≤ fs.length ∧ Aside0 (SvS w0 wr ℓj B n m ⟨.int .i64 n, v1, .slice A2 m c2, v3⟩ vtj (List.replicate n (.slice none 0 0)) (List.replicate n (.slice none 0 0)) sj [gx] [.cells #[.pointer (some ⟨B.gs, 0, none⟩)] 44 (0, 0)] []) ∧ Aside0 (factsV n (fs.drop j) sj = some s1)) (fun v44 _ => fs.length - (intOf v44).toNat)
  case atStart => exact ⟨0, _, ℓ, _, rfl, Nat.zero_le _, HS, ⟨by simpa using H1.out⟩⟩
  case round =>
    clear HS H1
    obtain ⟨j, sj, ℓj, vtj, rfl, hj, HS, HF1⟩ := hrel
    as_aux_lemma =>
    by_cases hlt : j < fs.length
    · have hf := HF1.out
      rw [dropR hlt] at hf
      obtain ⟨ad, rfl, hcell⟩ := Kd.at_int (Kd.C_below HF.out (below_step HB.out HS.out.M.below)) (j : Int) (by omega) (by omega)
      simp only [Int.toNat_natCast] at hcell
      clear HF1
      generalize rd fs (j : Int) = q at hf hcell
      simp only [factsV] at hf
      by_cases hg : 0 ≤ q ∧ q < n
      rotate_left
      · rw [if_neg hg] at hf; cases hf
      rw [if_pos hg] at hf
      obtain ⟨hq0, hq1⟩ := hg
      obtain ⟨s2, hT, hf⟩ := Option.bind_eq_some_iff.1 hf
      have HT := Aside0.mk hT
      have HF2 := Aside0.mk hf
      clear hT hf
      have cx : wr.cell? ⟨gx, 0, none⟩ = some (.pointer (some ⟨B.gs, 0, none⟩)) := HS.out.M.cell 10 rfl rfl 0
      obtain ⟨_, _, _, _, c4, _⟩ := HS.out.cells
      have ffa := HS.out.frz.2.1 q.toNat
      have dfa := HS.out.atFa hq0 hq1
      have HS1 := Aside0.mk (HS.out.setFa q.toNat true)
      go_upto_region 7 with fail
      clear cx c4 ffa dfa hcell HS
      generalize wr.setCell ⟨B.fa, q.toNat, none⟩ (.bool true) = w3 at HS1 ⊢
      have cx : w3.cell? ⟨gx, 0, none⟩ = some (.pointer (some ⟨B.gs, 0, none⟩)) := HS1.out.M.cell 10 rfl rfl 0
      go_wp2_with fail
      refine (tell_any w0 w3 ℓj B n m _ vtj _ _ _ s2 [gx] _ [] q true 1 HS1.out HT.out).mono ?_
      rintro e w4 ⟨rfl, ℓ2, vt2, hS2⟩
      have HS2 := Aside0.mk hS2
      clear hS2 cx HS1
      go_wp2_with fail
      go_roundw
      case rel => exact ⟨j + 1, s2, ℓ2, vt2, by go_num, by omega, HS2, HF2⟩
      case measure => simp [intOf]; omega
    · have hf := HF1.out
      rw [List.drop_of_length_le (by omega)] at hf
      simp only [factsV, Option.some.injEq] at hf
      subst hf
      clear HF1
      obtain ⟨wx, hwx⟩ : ∃ wx : World, wx = wr := ⟨_, rfl⟩
      subst hwx
      have g2 : wx.cell? ⟨gt, 2, none⟩ = some (.slice A2 m c2) := (blk_cell (blk_below HGT.out HS.out.M.below) 2).trans rfl
      go_wp2_with fail
      go_loopw [61] (fun v61 wr => ∃ (j : Nat) (sj : SV) (ℓj : Nat → Nat) (vtj : Value) (vi vr : List Value), v61 = .int .i64 j ∧ j ≤ m ∧ Aside0 (SvS w0 wr ℓj B n m ⟨.int .i64 n, v1, .slice A2 m c2, v3⟩ vtj vi vr sj [gx] [.cells #[.pointer (some ⟨B.gs, 0, none⟩)] 44 (0, 0)] []) ∧ Aside0 (rulesV n kd hd bd ((irange m).drop j) sj = some s2)) (fun v61 _ => m - (intOf v61).toNat)
      case atStart => exact ⟨0, _, _, _, _, _, rfl, Nat.zero_le _, HS, ⟨by simpa using H2.out⟩⟩
      case round =>
        clear HS H2 g2 HF
        clear wx vtj hj hlt
        obtain ⟨i, sj, ℓj, vtj, vi, vr, rfl, hi, HS, HF1⟩ := hrel
        as_aux_lemma =>
        by_cases hlt : i < m
        · have hf := HF1.out
          rw [irange_drop hlt] at hf
          obtain ⟨ar, Ab, cb, rfl, k0, k1, k2, kC⟩ := HR.out (i : Int) (by omega) (by omega)
          simp only [Int.toNat_natCast] at k0 k1 k2
          have hbl := below_step HB.out HS.out.M.below
          replace k0 := (hbl.cell (World.block_lt_of_cell? w _ k0)).trans k0
          replace k1 := (hbl.cell (World.block_lt_of_cell? w _ k1)).trans k1
          replace k2 := (hbl.cell (World.block_lt_of_cell? w _ k2)).trans k2
          have hmb := Kd.C_max kC
          have KC := Aside0.mk kC
          clear hbl kC HF1
          simp only [rulesV] at hf
          go_upto_region 12 with fail
          clear k0 k1 k2
          obtain ⟨gr, hgr⟩ : ∃ gr, gr = wr.heap.size := ⟨_, rfl⟩
          have HS1 : Aside0 (SvS w0 _ _ B n m ⟨.int .i64 n, v1, .slice (some ar) m c2, v3⟩ vtj vi vr sj [gx, gr] [.cells #[.pointer (some ⟨B.gs, 0, none⟩)] 44 (0, 0), .cells #[.int .i64 (kd i), .int .i64 (hd i), .slice Ab (bd i).length cb] 37 (0, 0)] []) := ⟨hgr ▸ HS.out.addBlk rfl (.cells #[.int .i64 (kd i), .int .i64 (hd i), .slice Ab (bd i).length cb] 37 (0, 0))⟩
          rw [← hgr]
          clear HS hgr
          generalize lab wr ℓj _ = ℓ1 at HS1
          generalize wr.alloc (.cells #[.int .i64 (kd i), .int .i64 (hd i), .slice Ab (bd i).length cb] 37 (0, 0)) = w3 at HS1 ⊢
          as_aux_lemma =>
          have r0 : w3.cell? ⟨gr, 0, none⟩ = some (.int .i64 (kd i)) := HS1.out.M.cell 11 rfl rfl 0
          by_cases hk : kd i = 1
          rotate_left
          · rw [if_neg hk] at hf
            have t1 : (kd i == 1) = false := by simpa using hk
            have HF2 := Aside0.mk hf
            have HS2 := Aside0.mk (SvS.dropBlk (bx := [gx]) (ox := [.cells #[.pointer (some ⟨B.gs, 0, none⟩)] 44 (0, 0)]) HS1.out)
            clear hk hf HS1
            go_wp2_with fail
            go_roundw
            case rel => exact ⟨i + 1, _, _, _, _, _, by go_num, by omega, HS2, HF2⟩
            case measure => simp [intOf]; omega
          · rw [if_pos hk] at hf
            have t1 : (kd i == 1) = true := by simpa using hk
            obtain ⟨s4, hRV, hf⟩ := Option.bind_eq_some_iff.1 hf
            have HF2 := Aside0.mk hf
            clear hf hk
            unfold ruleV at hRV
            generalize hd (i : Int) = h at HS1 hRV ⊢
            generalize bd (i : Int) = bs at HS1 KC hmb hRV ⊢
            by_cases hg : (0 ≤ h ∧ h < n) ∧ sm (ga sj.left h) ∧ (sj.rls.getD h.toNat []).length < 1000000
            rotate_left
            · rw [if_neg hg] at hRV; cases hRV
            rw [if_pos hg] at hRV
            obtain ⟨⟨hh0, hh1⟩, ⟨hl0, hl1⟩, hrl⟩ := hg
            obtain ⟨s5, hI, hTl⟩ := Option.bind_eq_some_iff.1 hRV
            have HI := Aside0.mk hI
            have HTL := Aside0.mk hTl
            clear hRV hI hTl
            have hi0 : (0 : Int) ≤ (i : Int) := by omega
            have hi1 : (i : Int) < m := by omega
            obtain ⟨_, _, _, _, _, _, c6, c7, _, c9, _⟩ := HS1.out.cells
            have cx : w3.cell? ⟨gx, 0, none⟩ = some (.pointer (some ⟨B.gs, 0, none⟩)) := HS1.out.M.cell 10 rfl rfl 0
            have r2 : w3.cell? ⟨gr, 2, none⟩ = some (.slice Ab bs.length cb) := HS1.out.M.cell 11 rfl rfl 2
            have dne := HS1.out.atNe hi0 hi1
            simp only [Int.toNat_natCast] at dne
            go_upto_region 13 with fail
            refine start_ (n := 10) (S := fun w' => w'.cell? ⟨gx, 0, none⟩ = some (.pointer (some ⟨B.gs, 0, none⟩)) ∧ w'.cell? ⟨B.gs, 7, none⟩ = some (.slice (some ⟨B.ne, 0, none⟩) m m) ∧ w'.cell? ⟨gr, 2, none⟩ = some (.slice Ab bs.length cb)) (ds := [9]) #[false, false, false, false, false, false, false, false, false, false] (by kernel_rfl) rfl rfl (⟨cx, c7, r2⟩) (fun hHeld => ?_)
            refine pure_ (i := 4) (N := some 73) (v := ?_) (a' := ?_) #[false, false, false, false, true, false, false, false, false, false] rfl rfl (by kernel_rfl) (fun _ _ _ h => h) (Or.inl ⟨by rfl, ?_⟩) ?_ ?_
            rotate_left
            · intro w'
              go_simp
              with_reducible rfl
            rotate_left
            · simp only [Act.put, List.setIfInBounds_toArray, List.set_cons_zero, List.set_cons_succ, i64_w, i32_w]
              rfl
            refine pure_ (i := 5) (N := some 74) (v := ?_) (a' := ?_) #[false, false, false, false, true, true, false, false, false, false] rfl rfl (by kernel_rfl) (fun _ _ _ h => h) (Or.inl ⟨by rfl, ?_⟩) ?_ ?_
            rotate_left
            · intro w'
              go_simp
              with_reducible rfl
            rotate_left
            · simp only [Act.put, List.setIfInBounds_toArray, List.set_cons_zero, List.set_cons_succ, i64_w, i32_w]
              rfl
            refine take_ (i := 0) (N := some 69) (v := ?_) (a' := ?_) #[true, false, false, false, true, true, false, false, false, false] rfl rfl (by kernel_rfl) (fun _ _ _ h => h) (Or.inl ⟨by rfl, ?_⟩) hHeld ?_ ?_
            rotate_left
            · rintro w' ⟨s0, s1, s2⟩
              go_simp
              with_reducible rfl
            rotate_left
            · simp only [Act.put, List.setIfInBounds_toArray, List.set_cons_zero, List.set_cons_succ, i64_w, i32_w]
              rfl
            refine pure_ (i := 1) (N := some 70) (v := ?_) (a' := ?_) #[true, true, false, false, true, true, false, false, false, false] rfl rfl (by kernel_rfl) (fun _ _ _ h => h) (Or.inl ⟨by rfl, ?_⟩) ?_ ?_
            rotate_left
            · intro w'
              go_simp
              with_reducible rfl
            rotate_left
            · simp only [Act.put, List.setIfInBounds_toArray, List.set_cons_zero, List.set_cons_succ, i64_w, i32_w]
              rfl
            refine pure_ (i := 2) (N := some 71) (v := ?_) (a' := ?_) #[true, true, true, false, true, true, false, false, false, false] rfl rfl (by kernel_rfl) (fun _ _ _ h => h) (Or.inl ⟨by rfl, ?_⟩) ?_ ?_
            rotate_left
            · intro w'
              go_simp
              with_reducible rfl
            rotate_left
            · simp only [Act.put, List.setIfInBounds_toArray, List.set_cons_zero, List.set_cons_succ, i64_w, i32_w]
              rfl
            refine take_ (i := 3) (N := some 72) (v := ?_) (a' := ?_) #[true, true, true, true, true, true, false, false, false, false] rfl rfl (by kernel_rfl) (fun _ _ _ h => h) (Or.inl ⟨by rfl, ?_⟩) hHeld ?_ ?_
            rotate_left
            · rintro w' ⟨s0, s1, s2⟩
              go_simp
              with_reducible rfl
            rotate_left
            · simp only [Act.put, List.setIfInBounds_toArray, List.set_cons_zero, List.set_cons_succ, i64_w, i32_w]
              rfl
            refine take_ (i := 6) (N := some 75) (v := ?_) (a' := ?_) #[true, true, true, true, true, true, true, false, false, false] rfl rfl (by kernel_rfl) (fun _ _ _ h => h) (Or.inl ⟨by rfl, ?_⟩) hHeld ?_ ?_
            rotate_left
            · rintro w' ⟨s0, s1, s2⟩
              go_simp
              with_reducible rfl
            rotate_left
            · simp only [Act.put, List.setIfInBounds_toArray, List.set_cons_zero, List.set_cons_succ, i64_w, i32_w]
              rfl
            refine pure_ (i := 7) (N := some 76) (v := ?_) (a' := ?_) #[true, true, true, true, true, true, true, true, false, false] rfl rfl (by kernel_rfl) (fun _ _ _ h => h) (Or.inl ⟨by rfl, ?_⟩) ?_ ?_
            rotate_left
            · intro w'
              go_simp
              with_reducible rfl
            rotate_left
            · simp only [Act.put, List.setIfInBounds_toArray, List.set_cons_zero, List.set_cons_succ, i64_w, i32_w]
              rfl
            refine pure_ (i := 8) (N := some 77) (v := ?_) (a' := ?_) #[true, true, true, true, true, true, true, true, true, false] rfl rfl (by kernel_rfl) (fun _ _ _ h => h) (Or.inl ⟨by rfl, ?_⟩) ?_ ?_
            rotate_left
            · intro w'
              go_simp
              with_reducible rfl
            rotate_left
            · simp only [Act.put, List.setIfInBounds_toArray, List.set_cons_zero, List.set_cons_succ, i64_w, i32_w]
              rfl
            refine last_ (i := 9) (N := none) #[true, true, true, true, true, true, true, true, true, true] rfl rfl (by kernel_rfl) (by decide) (fun K hK => ?_)
            have fne := HS1.out.frz.2.2.2.2.1 i
            refine skip_ (w1 := ?_) (by rfl) rfl ?_ ?_
            rotate_left
            · go_simp
              rfl
            refine hK.out _ _ ?_
            clear hK K
            refine done_ (by kernel_rfl) ?_
            have HS2 := Aside0.mk (HS1.out.setNe i (bs.length : Int)).drew
            clear cx c6 c7 c9 r0 r2 dne fne HS1
            generalize (w3.setCell ⟨B.ne, i, none⟩ (.int .i64 bs.length)).drew = w4 at HS2 ⊢
            as_aux_lemma =>
            obtain ⟨_, _, _, _, _, _, _, _, _, c9, _⟩ := HS2.out.cells
            have cx : w4.cell? ⟨gx, 0, none⟩ = some (.pointer (some ⟨B.gs, 0, none⟩)) := HS2.out.M.cell 10 rfl rfl 0
            have r1 : w4.cell? ⟨gr, 1, none⟩ = some (.int .i64 h) := HS2.out.M.cell 11 rfl rfl 1
            have dle := HS2.out.atLe hh0 hh1
            simp only at dle
            go_upto_region 14 with fail
            refine start_ (n := 11) (S := fun w' => w'.cell? ⟨gx, 0, none⟩ = some (.pointer (some ⟨B.gs, 0, none⟩)) ∧ w'.cell? ⟨B.gs, 9, none⟩ = some (.slice (some ⟨B.le, 0, none⟩) n n) ∧ w'.cell? ⟨gr, 1, none⟩ = some (.int .i64 h) ∧ w'.cell? ⟨B.le, h.toNat, none⟩ = some (.int .i64 (ga sj.left h))) (ds := [10]) #[false, false, false, false, false, false, false, false, false, false, false] (by kernel_rfl) rfl rfl (⟨cx, c9, r1, dle⟩) (fun hHeld => ?_)
            refine pure_ (i := 4) (N := some 82) (v := ?_) (a' := ?_) #[false, false, false, false, true, false, false, false, false, false, false] rfl rfl (by kernel_rfl) (fun _ _ _ h => h) (Or.inl ⟨by rfl, ?_⟩) ?_ ?_
            rotate_left
            · intro w'
              go_simp
              with_reducible rfl
            rotate_left
            · simp only [Act.put, List.setIfInBounds_toArray, List.set_cons_zero, List.set_cons_succ, i64_w, i32_w]
              rfl
            refine take_ (i := 0) (N := some 78) (v := ?_) (a' := ?_) #[true, false, false, false, true, false, false, false, false, false, false] rfl rfl (by kernel_rfl) (fun _ _ _ h => h) (Or.inl ⟨by rfl, ?_⟩) hHeld ?_ ?_
            rotate_left
            · rintro w' ⟨s0, s1, s2, s3⟩
              go_simp
              with_reducible rfl
            rotate_left
            · simp only [Act.put, List.setIfInBounds_toArray, List.set_cons_zero, List.set_cons_succ, i64_w, i32_w]
              rfl
            refine pure_ (i := 1) (N := some 79) (v := ?_) (a' := ?_) #[true, true, false, false, true, false, false, false, false, false, false] rfl rfl (by kernel_rfl) (fun _ _ _ h => h) (Or.inl ⟨by rfl, ?_⟩) ?_ ?_
            rotate_left
            · intro w'
              go_simp
              with_reducible rfl
            rotate_left
            · simp only [Act.put, List.setIfInBounds_toArray, List.set_cons_zero, List.set_cons_succ, i64_w, i32_w]
              rfl
            refine pure_ (i := 2) (N := some 80) (v := ?_) (a' := ?_) #[true, true, true, false, true, false, false, false, false, false, false] rfl rfl (by kernel_rfl) (fun _ _ _ h => h) (Or.inl ⟨by rfl, ?_⟩) ?_ ?_
            rotate_left
            · intro w'
              go_simp
              with_reducible rfl
            rotate_left
            · simp only [Act.put, List.setIfInBounds_toArray, List.set_cons_zero, List.set_cons_succ, i64_w, i32_w]
              rfl
            refine take_ (i := 3) (N := some 81) (v := ?_) (a' := ?_) #[true, true, true, true, true, false, false, false, false, false, false] rfl rfl (by kernel_rfl) (fun _ _ _ h => h) (Or.inl ⟨by rfl, ?_⟩) hHeld ?_ ?_
            rotate_left
            · rintro w' ⟨s0, s1, s2, s3⟩
              go_simp
              with_reducible rfl
            rotate_left
            · simp only [Act.put, List.setIfInBounds_toArray, List.set_cons_zero, List.set_cons_succ, i64_w, i32_w]
              rfl
            refine take_ (i := 5) (N := some 83) (v := ?_) (a' := ?_) #[true, true, true, true, true, true, false, false, false, false, false] rfl rfl (by kernel_rfl) (fun _ _ _ h => h) (Or.inl ⟨by rfl, ?_⟩) hHeld ?_ ?_
            rotate_left
            · rintro w' ⟨s0, s1, s2, s3⟩
              go_simp
              with_reducible rfl
            rotate_left
            · simp only [Act.put, List.setIfInBounds_toArray, List.set_cons_zero, List.set_cons_succ, i64_w, i32_w]
              rfl
            refine pure_ (i := 6) (N := some 84) (v := ?_) (a' := ?_) #[true, true, true, true, true, true, true, false, false, false, false] rfl rfl (by kernel_rfl) (fun _ _ _ h => h) (Or.inl ⟨by rfl, ?_⟩) ?_ ?_
            rotate_left
            · intro w'
              go_simp
              with_reducible rfl
            rotate_left
            · simp only [Act.put, List.setIfInBounds_toArray, List.set_cons_zero, List.set_cons_succ, i64_w, i32_w]
              rfl
            refine take_ (i := 7) (N := some 85) (v := ?_) (a' := ?_) #[true, true, true, true, true, true, true, true, false, false, false] rfl rfl (by kernel_rfl) (fun _ _ _ h => h) (Or.inl ⟨by rfl, ?_⟩) hHeld ?_ ?_
            rotate_left
            · rintro w' ⟨s0, s1, s2, s3⟩
              go_simp
              with_reducible rfl
            rotate_left
            · simp only [Act.put, List.setIfInBounds_toArray, List.set_cons_zero, List.set_cons_succ, i64_w, i32_w]
              rfl
            refine pure_ (i := 8) (N := some 86) (v := ?_) (a' := ?_) #[true, true, true, true, true, true, true, true, true, false, false] rfl rfl (by kernel_rfl) (fun _ _ _ h => h) (Or.inl ⟨by rfl, ?_⟩) ?_ ?_
            rotate_left
            · intro w'
              go_simp
              with_reducible rfl
            rotate_left
            · simp only [Act.put, List.setIfInBounds_toArray, List.set_cons_zero, List.set_cons_succ, i64_w, i32_w]
              rfl
            refine pure_ (i := 9) (N := some 87) (v := ?_) (a' := ?_) #[true, true, true, true, true, true, true, true, true, true, false] rfl rfl (by kernel_rfl) (fun _ _ _ h => h) (Or.inl ⟨by rfl, ?_⟩) ?_ ?_
            rotate_left
            · intro w'
              go_simp
              with_reducible rfl
            rotate_left
            · simp only [Act.put, List.setIfInBounds_toArray, List.set_cons_zero, List.set_cons_succ, i64_w, i32_w]
              rfl
            refine last_ (i := 10) (N := none) #[true, true, true, true, true, true, true, true, true, true, true] rfl rfl (by kernel_rfl) (by decide) (fun K hK => ?_)
            have fle := HS2.out.frz.2.2.2.2.2.2.1 h.toNat
            refine skip_ (w1 := ?_) (by rfl) rfl ?_ ?_
            rotate_left
            · go_simp
              rfl
            refine hK.out _ _ ?_
            clear hK K
            refine done_ (by kernel_rfl) ?_
            have HS3 := Aside0.mk (HS2.out.setLe h.toNat (ga sj.left h + 1)).drew
            have ew : wrap64 (ga sj.left h + 1) = ga sj.left h + 1 := IntWalk.wrap64_in _ (by omega)
            rw [ew]
            clear cx c9 r1 dle fle HS2 ew
            generalize (w4.setCell ⟨B.le, h.toNat, none⟩ (.int .i64 (ga sj.left h + 1))).drew = w5 at HS3 ⊢
            as_aux_lemma =>
            obtain ⟨_, _, _, _, _, _, c6, _⟩ := HS3.out.cells
            have cx : w5.cell? ⟨gx, 0, none⟩ = some (.pointer (some ⟨B.gs, 0, none⟩)) := HS3.out.M.cell 10 rfl rfl 0
            have r1 : w5.cell? ⟨gr, 1, none⟩ = some (.int .i64 h) := HS3.out.M.cell 11 rfl rfl 1
            obtain ⟨d1, hrw⟩ := HS3.out.lsRow hh0 hh1
            simp only at hrw
            obtain ⟨As, cs, eS⟩ := Kd.R_slice (HS3.out.M.row _ _ _ hrw)
            rw [eS] at d1 hrw
            have HRW := Aside0.mk hrw
            have HQ := Aside0.mk (HS3.out.drew.M.ask _ hrw)
            have hbs := HS3.out.drew.M.below.size
            obtain ⟨xs, hxs⟩ : ∃ xs, xs = sj.rls.getD h.toNat [] := ⟨_, rfl⟩
            rw [← hxs] at hrl d1 HRW HQ
            have HVR := Aside0.mk ((HS3.out.M.cell 3 rfl rfl h.toNat).symm.trans d1)
            have HXS := Aside0.mk hxs
            clear hxs hrw eS
            go_upto_region 15 with fail
            refine start_ (n := 19) (S := fun w' => w'.cell? ⟨gx, 0, none⟩ = some (.pointer (some ⟨B.gs, 0, none⟩)) ∧ w'.cell? ⟨B.gs, 6, none⟩ = some (.slice (some ⟨B.br, 0, none⟩) n n) ∧ w'.cell? ⟨gr, 1, none⟩ = some (.int .i64 h) ∧ w'.cell? ⟨B.br, h.toNat, none⟩ = some (.slice As xs.length cs)) (ds := [18]) #[false, false, false, false, false, false, false, false, false, false, false, false, false, false, false, false, false, false, false] (by kernel_rfl) rfl rfl (⟨cx, c6, r1, d1⟩) (fun hHeld => ?_)
            refine pure_ (i := 4) (N := some 92) (v := ?_) (a' := ?_) #[false, false, false, false, true, false, false, false, false, false, false, false, false, false, false, false, false, false, false] rfl rfl (by kernel_rfl) (fun _ _ _ h => h) (Or.inl ⟨by rfl, ?_⟩) ?_ ?_
            rotate_left
            · intro w'
              go_simp
              with_reducible rfl
            rotate_left
            · simp only [Act.put, List.setIfInBounds_toArray, List.set_cons_zero, List.set_cons_succ, i64_w, i32_w]
              rfl
            refine pure_ (i := 10) (N := some 98) (v := ?_) (a' := ?_) #[false, false, false, false, true, false, false, false, false, false, true, false, false, false, false, false, false, false, false] rfl rfl (by kernel_rfl) (fun _ _ _ h => h) (Or.inl ⟨by rfl, ?_⟩) ?_ ?_
            rotate_left
            · intro w'
              go_simp
              with_reducible rfl
            rotate_left
            · simp only [Act.put, List.setIfInBounds_toArray, List.set_cons_zero, List.set_cons_succ, i64_w, i32_w]
              rfl
            refine pure_ (i := 14) (N := some 102) (v := ?_) (a' := ?_) #[false, false, false, false, true, false, false, false, false, false, true, false, false, false, true, false, false, false, false] rfl rfl (by kernel_rfl) (fun _ _ _ h => h) (Or.inl ⟨by rfl, ?_⟩) ?_ ?_
            rotate_left
            · intro w'
              go_simp
              with_reducible rfl
            rotate_left
            · simp only [Act.put, List.setIfInBounds_toArray, List.set_cons_zero, List.set_cons_succ, i64_w, i32_w]
              rfl
            refine take_ (i := 0) (N := some 88) (v := ?_) (a' := ?_) #[true, false, false, false, true, false, false, false, false, false, true, false, false, false, true, false, false, false, false] rfl rfl (by kernel_rfl) (fun _ _ _ h => h) (Or.inl ⟨by rfl, ?_⟩) hHeld ?_ ?_
            rotate_left
            · rintro w' ⟨s0, s1, s2, s3⟩
              go_simp
              with_reducible rfl
            rotate_left
            · simp only [Act.put, List.setIfInBounds_toArray, List.set_cons_zero, List.set_cons_succ, i64_w, i32_w]
              rfl
            refine pure_ (i := 1) (N := some 89) (v := ?_) (a' := ?_) #[true, true, false, false, true, false, false, false, false, false, true, false, false, false, true, false, false, false, false] rfl rfl (by kernel_rfl) (fun _ _ _ h => h) (Or.inl ⟨by rfl, ?_⟩) ?_ ?_
            rotate_left
            · intro w'
              go_simp
              with_reducible rfl
            rotate_left
            · simp only [Act.put, List.setIfInBounds_toArray, List.set_cons_zero, List.set_cons_succ, i64_w, i32_w]
              rfl
            refine pure_ (i := 2) (N := some 90) (v := ?_) (a' := ?_) #[true, true, true, false, true, false, false, false, false, false, true, false, false, false, true, false, false, false, false] rfl rfl (by kernel_rfl) (fun _ _ _ h => h) (Or.inl ⟨by rfl, ?_⟩) ?_ ?_
            rotate_left
            · intro w'
              go_simp
              with_reducible rfl
            rotate_left
            · simp only [Act.put, List.setIfInBounds_toArray, List.set_cons_zero, List.set_cons_succ, i64_w, i32_w]
              rfl
            refine take_ (i := 3) (N := some 91) (v := ?_) (a' := ?_) #[true, true, true, true, true, false, false, false, false, false, true, false, false, false, true, false, false, false, false] rfl rfl (by kernel_rfl) (fun _ _ _ h => h) (Or.inl ⟨by rfl, ?_⟩) hHeld ?_ ?_
            rotate_left
            · rintro w' ⟨s0, s1, s2, s3⟩
              go_simp
              with_reducible rfl
            rotate_left
            · simp only [Act.put, List.setIfInBounds_toArray, List.set_cons_zero, List.set_cons_succ, i64_w, i32_w]
              rfl
            refine take_ (i := 5) (N := some 93) (v := ?_) (a' := ?_) #[true, true, true, true, true, true, false, false, false, false, true, false, false, false, true, false, false, false, false] rfl rfl (by kernel_rfl) (fun _ _ _ h => h) (Or.inl ⟨by rfl, ?_⟩) hHeld ?_ ?_
            rotate_left
            · rintro w' ⟨s0, s1, s2, s3⟩
              go_simp
              with_reducible rfl
            rotate_left
            · simp only [Act.put, List.setIfInBounds_toArray, List.set_cons_zero, List.set_cons_succ, i64_w, i32_w]
              rfl
            refine take_ (i := 6) (N := some 94) (v := ?_) (a' := ?_) #[true, true, true, true, true, true, true, false, false, false, true, false, false, false, true, false, false, false, false] rfl rfl (by kernel_rfl) (fun _ _ _ h => h) (Or.inl ⟨by rfl, ?_⟩) hHeld ?_ ?_
            rotate_left
            · rintro w' ⟨s0, s1, s2, s3⟩
              go_simp
              with_reducible rfl
            rotate_left
            · simp only [Act.put, List.setIfInBounds_toArray, List.set_cons_zero, List.set_cons_succ, i64_w, i32_w]
              rfl
            refine pure_ (i := 7) (N := some 95) (v := ?_) (a' := ?_) #[true, true, true, true, true, true, true, true, false, false, true, false, false, false, true, false, false, false, false] rfl rfl (by kernel_rfl) (fun _ _ _ h => h) (Or.inl ⟨by rfl, ?_⟩) ?_ ?_
            rotate_left
            · intro w'
              go_simp
              with_reducible rfl
            rotate_left
            · simp only [Act.put, List.setIfInBounds_toArray, List.set_cons_zero, List.set_cons_succ, i64_w, i32_w]
              rfl
            refine pure_ (i := 8) (N := some 96) (v := ?_) (a' := ?_) #[true, true, true, true, true, true, true, true, true, false, true, false, false, false, true, false, false, false, false] rfl rfl (by kernel_rfl) (fun _ _ _ h => h) (Or.inl ⟨by rfl, ?_⟩) ?_ ?_
            rotate_left
            · intro w'
              go_simp
              with_reducible rfl
            rotate_left
            · simp only [Act.put, List.setIfInBounds_toArray, List.set_cons_zero, List.set_cons_succ, i64_w, i32_w]
              rfl
            refine take_ (i := 9) (N := some 97) (v := ?_) (a' := ?_) #[true, true, true, true, true, true, true, true, true, true, true, false, false, false, true, false, false, false, false] rfl rfl (by kernel_rfl) (fun _ _ _ h => h) (Or.inl ⟨by rfl, ?_⟩) hHeld ?_ ?_
            rotate_left
            · rintro w' ⟨s0, s1, s2, s3⟩
              go_simp
              with_reducible rfl
            rotate_left
            · simp only [Act.put, List.setIfInBounds_toArray, List.set_cons_zero, List.set_cons_succ, i64_w, i32_w]
              rfl
            refine take_ (i := 11) (N := some 99) (v := ?_) (a' := ?_) #[true, true, true, true, true, true, true, true, true, true, true, true, false, false, true, false, false, false, false] rfl rfl (by kernel_rfl) (fun _ _ _ h => h) (Or.inl ⟨by rfl, ?_⟩) hHeld ?_ ?_
            rotate_left
            · rintro w' ⟨s0, s1, s2, s3⟩
              go_simp
              with_reducible rfl
            rotate_left
            · simp only [Act.put, List.setIfInBounds_toArray, List.set_cons_zero, List.set_cons_succ, i64_w, i32_w]
              rfl
            refine pure_ (i := 12) (N := some 100) (v := ?_) (a' := ?_) #[true, true, true, true, true, true, true, true, true, true, true, true, true, false, true, false, false, false, false] rfl rfl (by kernel_rfl) (fun _ _ _ h => h) (Or.inl ⟨by rfl, ?_⟩) ?_ ?_
            rotate_left
            · intro w'
              go_simp
              with_reducible rfl
            rotate_left
            · simp only [Act.put, List.setIfInBounds_toArray, List.set_cons_zero, List.set_cons_succ, i64_w, i32_w]
              rfl
            refine take_ (i := 13) (N := some 101) (v := ?_) (a' := ?_) #[true, true, true, true, true, true, true, true, true, true, true, true, true, true, true, false, false, false, false] rfl rfl (by kernel_rfl) (fun _ _ _ h => h) (Or.inl ⟨by rfl, ?_⟩) hHeld ?_ ?_
            rotate_left
            · rintro w' ⟨s0, s1, s2, s3⟩
              go_simp
              with_reducible rfl
            rotate_left
            · simp only [Act.put, List.setIfInBounds_toArray, List.set_cons_zero, List.set_cons_succ, i64_w, i32_w]
              rfl
            refine one_ (i := 15) (N := some 103) #[true, true, true, true, true, true, true, true, true, true, true, true, true, true, true, true, false, false, false] rfl rfl (by kernel_rfl) (by decide) (fun K hK => ?_)
            have HA := Aside0.mk (HS3.out.drew.M.alloc (.cells #[.int .i64 (i : Int)] 3 (0, 0)))
            refine value_ (w1 := ?_) (v := ?_) (by rfl) rfl ?_ ?_
            rotate_left 2
            · go_simp
              constructor
              · rfl
              · rfl
            refine hK.out _ _ (⟨HA.out.cell 10 rfl rfl 0, HA.out.cell 0 rfl rfl 6, HA.out.cell 11 rfl rfl 1, (HA.out.cell 3 rfl rfl h.toNat).trans HVR.out⟩) (fun hHeld => ?_)
            clear hK K
            refine norm_ (a' := ?_) ?_ ?_
            rotate_left
            · show Act.put _ (some 103) _ = _
              simp only [Act.put, List.setIfInBounds_toArray, List.set_cons_zero, List.set_cons_succ, i64_w, i32_w]
              rfl
            refine one_ (i := 16) (N := some 104) #[true, true, true, true, true, true, true, true, true, true, true, true, true, true, true, true, true, false, false] rfl rfl (by kernel_rfl) (by decide) (fun K hK => ?_)
            refine Kd.R_append_step (Kd.int .i64) (w0 := w0) (W := w5.drew) w0.heap.size (by simp [Region.wanted]) (.tmp 101) (.tmp 103) 26 3 (.int .i64 0) 8 rfl Try.underlying26 infoI rfl (by decide) (by omega) (.slice As xs.length cs) xs (i : Int) [.int .i64 (i : Int)] (fun k => lab w5.drew ℓ1 (2 * (1 + n + h.toNat) + 1) k = 2 * (1 + n + h.toNat) + 1) (fun _ => False) (by rfl) (by rfl) rfl (fun _ h => h.elim) (by exact HQ.out.2) HQ.out.1 HS3.out.drew.M.below hbs (by omega) ?_
            intro vn w6 hR hB hg hat
            have el : (xs ++ [(i : Int)]).length = xs.length + 1 := by simp
            obtain ⟨Ao, co, eo⟩ := Kd.R_slice hR
            rw [el] at eo
            subst eo
            clear el
            have HM := Aside0.mk (HS3.out.drew.M.appended _ HRW.out hR hg)
            clear hR hB hg hat
            refine hK.out _ _ (⟨HM.out.cell 10 rfl rfl 0, HM.out.cell 0 rfl rfl 6, HM.out.cell 11 rfl rfl 1, (HM.out.cell 3 rfl rfl h.toNat).trans HVR.out⟩) (fun hHeld => ?_)
            clear hK K
            refine norm_ (a' := ?_) ?_ ?_
            rotate_left
            · show Act.put _ (some 104) _ = _
              simp only [Act.put, List.setIfInBounds_toArray, List.set_cons_zero, List.set_cons_succ, i64_w, i32_w]
              rfl
            refine pure_ (i := 17) (N := some 105) (v := ?_) (a' := ?_) #[true, true, true, true, true, true, true, true, true, true, true, true, true, true, true, true, true, true, false] rfl rfl (by kernel_rfl) (fun _ _ _ h => h) (Or.inl ⟨by rfl, ?_⟩) ?_ ?_
            rotate_left
            · intro w'
              go_simp
              with_reducible rfl
            rotate_left
            · simp only [Act.put, List.setIfInBounds_toArray, List.set_cons_zero, List.set_cons_succ, i64_w, i32_w]
              rfl
            refine last_ (i := 18) (N := none) #[true, true, true, true, true, true, true, true, true, true, true, true, true, true, true, true, true, true, true] rfl rfl (by kernel_rfl) (by decide) (fun K hK => ?_)
            have dbr := (HM.out.cell 3 rfl rfl h.toNat).trans HVR.out
            have fbr := HM.out.froz 3 rfl rfl h.toNat
            refine skip_ (w1 := ?_) (by rfl) rfl ?_ ?_
            rotate_left
            · go_simp
              rfl
            refine hK.out _ _ ?_
            clear hK K
            refine done_ (by kernel_rfl) ?_
            have HS4 := Aside0.mk (SvS.lsPut HS3.out.drew.L hh0 hh1 HM.out)
            clear cx c6 r1 d1 HRW HQ HVR hbs dbr fbr HM HS3 HA
            generalize lab w5.drew ℓ1 _ = ℓ2 at HS4
            generalize w6.setCell ⟨B.br, h.toNat, none⟩ (.slice Ao (xs.length + 1) co) = w7 at HS4 ⊢
            as_aux_lemma =>
            simp only [← HXS.out] at HI
            have r2 : w7.cell? ⟨gr, 2, none⟩ = some (.slice Ab bs.length cb) := HS4.out.M.cell 11 rfl rfl 2
            go_wp2_with fail
            clear r2
            go_loopw [109] (fun v109 wr => ∃ (j : Nat) (sk : SV) (ℓj : Nat → Nat) (vtj : Value) (vi vr : List Value), v109 = .int .i64 j ∧ j ≤ bs.length ∧ Aside0 (SvS w0 wr ℓj B n m ⟨.int .i64 n, v1, .slice (some ar) m c2, v3⟩ vtj vi vr sk [gx, gr] [.cells #[.pointer (some ⟨B.gs, 0, none⟩)] 44 (0, 0), .cells #[.int .i64 (kd i), .int .i64 h, .slice Ab bs.length cb] 37 (0, 0)] []) ∧ Aside0 (insV n (i : Int) (bs.drop j) sk = some s5)) (fun v109 _ => bs.length - (intOf v109).toNat)
            case atStart => exact ⟨0, _, _, _, _, _, rfl, Nat.zero_le _, HS4, ⟨by simpa using HI.out⟩⟩
            case round =>
              clear HS4 HI
              obtain ⟨wy, hwy⟩ : ∃ wy : World, wy = wr := ⟨_, rfl⟩
              subst hwy
              obtain ⟨j, sk, ℓj, vtj, vi, vr, rfl, hj, HS, HI⟩ := hrel
              as_aux_lemma =>
              by_cases hjt : j < bs.length
              · have hI := HI.out
                rw [dropR hjt] at hI
                obtain ⟨ad, rfl, hcell⟩ := Kd.at_int (Kd.C_below KC.out (below_step HB.out HS.out.M.below)) (j : Int) (by omega) (by omega)
                simp only [Int.toNat_natCast] at hcell
                clear HI
                generalize rd bs (j : Int) = b at hI hcell
                simp only [insV] at hI
                by_cases hg : (0 ≤ b ∧ b < n) ∧ (sk.ins.getD b.toNat []).length < 1000000
                rotate_left
                · rw [if_neg hg] at hI; cases hI
                rw [if_pos hg] at hI
                obtain ⟨⟨hb0, hb1⟩, hrl⟩ := hg
                go_upto_region 19 with fail
                clear hcell
                obtain ⟨_, _, _, _, _, c5, _⟩ := HS.out.cells
                have cx : wy.cell? ⟨gx, 0, none⟩ = some (.pointer (some ⟨B.gs, 0, none⟩)) := HS.out.M.cell 10 rfl rfl 0
                have d1 := (HS.out.inRow hb0 hb1).1
                have hrw := HS.out.inRw hb0 hb1
                obtain ⟨As, cs, eS⟩ := Kd.R_slice (HS.out.M.row _ _ _ hrw)
                rw [eS] at d1 hrw
                have HRW := Aside0.mk hrw
                have HQ := Aside0.mk (HS.out.drew.M.ask _ hrw)
                have hbs := HS.out.drew.M.below.size
                obtain ⟨xs, hxs⟩ : ∃ xs, xs = sk.ins.getD b.toNat [] := ⟨_, rfl⟩
                rw [← hxs] at hrl d1 HRW HQ hI
                have HVR := Aside0.mk ((HS.out.M.cell 2 rfl rfl b.toNat).symm.trans d1)
                have HI2 := Aside0.mk hI
                clear hxs hrw eS hI
                refine start_ (n := 17) (S := fun w' => w'.cell? ⟨gx, 0, none⟩ = some (.pointer (some ⟨B.gs, 0, none⟩)) ∧ w'.cell? ⟨B.gs, 5, none⟩ = some (.slice (some ⟨B.bi, 0, none⟩) n n) ∧ w'.cell? ⟨B.bi, b.toNat, none⟩ = some (.slice As xs.length cs)) (ds := [16]) #[false, false, false, false, false, false, false, false, false, false, false, false, false, false, false, false, false] (by kernel_rfl) rfl rfl (⟨cx, c5, d1⟩) (fun hHeld => ?_)
                refine pure_ (i := 4) (N := some 117) (v := ?_) (a' := ?_) #[false, false, false, false, true, false, false, false, false, false, false, false, false, false, false, false, false] rfl rfl (by kernel_rfl) (fun _ _ _ h => h) (Or.inl ⟨by rfl, ?_⟩) ?_ ?_
                rotate_left
                · intro w'
                  go_simp
                  with_reducible rfl
                rotate_left
                · simp only [Act.put, List.setIfInBounds_toArray, List.set_cons_zero, List.set_cons_succ, i64_w, i32_w]
                  rfl
                refine pure_ (i := 9) (N := some 122) (v := ?_) (a' := ?_) #[false, false, false, false, true, false, false, false, false, true, false, false, false, false, false, false, false] rfl rfl (by kernel_rfl) (fun _ _ _ h => h) (Or.inl ⟨by rfl, ?_⟩) ?_ ?_
                rotate_left
                · intro w'
                  go_simp
                  with_reducible rfl
                rotate_left
                · simp only [Act.put, List.setIfInBounds_toArray, List.set_cons_zero, List.set_cons_succ, i64_w, i32_w]
                  rfl
                refine pure_ (i := 12) (N := some 125) (v := ?_) (a' := ?_) #[false, false, false, false, true, false, false, false, false, true, false, false, true, false, false, false, false] rfl rfl (by kernel_rfl) (fun _ _ _ h => h) (Or.inl ⟨by rfl, ?_⟩) ?_ ?_
                rotate_left
                · intro w'
                  go_simp
                  with_reducible rfl
                rotate_left
                · simp only [Act.put, List.setIfInBounds_toArray, List.set_cons_zero, List.set_cons_succ, i64_w, i32_w]
                  rfl
                refine take_ (i := 0) (N := some 113) (v := ?_) (a' := ?_) #[true, false, false, false, true, false, false, false, false, true, false, false, true, false, false, false, false] rfl rfl (by kernel_rfl) (fun _ _ _ h => h) (Or.inl ⟨by rfl, ?_⟩) hHeld ?_ ?_
                rotate_left
                · rintro w' ⟨s0, s1, s2⟩
                  go_simp
                  with_reducible rfl
                rotate_left
                · simp only [Act.put, List.setIfInBounds_toArray, List.set_cons_zero, List.set_cons_succ, i64_w, i32_w]
                  rfl
                refine pure_ (i := 1) (N := some 114) (v := ?_) (a' := ?_) #[true, true, false, false, true, false, false, false, false, true, false, false, true, false, false, false, false] rfl rfl (by kernel_rfl) (fun _ _ _ h => h) (Or.inl ⟨by rfl, ?_⟩) ?_ ?_
                rotate_left
                · intro w'
                  go_simp
                  with_reducible rfl
                rotate_left
                · simp only [Act.put, List.setIfInBounds_toArray, List.set_cons_zero, List.set_cons_succ, i64_w, i32_w]
                  rfl
                refine pure_ (i := 2) (N := some 115) (v := ?_) (a' := ?_) #[true, true, true, false, true, false, false, false, false, true, false, false, true, false, false, false, false] rfl rfl (by kernel_rfl) (fun _ _ _ h => h) (Or.inl ⟨by rfl, ?_⟩) ?_ ?_
                rotate_left
                · intro w'
                  go_simp
                  with_reducible rfl
                rotate_left
                · simp only [Act.put, List.setIfInBounds_toArray, List.set_cons_zero, List.set_cons_succ, i64_w, i32_w]
                  rfl
                refine take_ (i := 3) (N := some 116) (v := ?_) (a' := ?_) #[true, true, true, true, true, false, false, false, false, true, false, false, true, false, false, false, false] rfl rfl (by kernel_rfl) (fun _ _ _ h => h) (Or.inl ⟨by rfl, ?_⟩) hHeld ?_ ?_
                rotate_left
                · rintro w' ⟨s0, s1, s2⟩
                  go_simp
                  with_reducible rfl
                rotate_left
                · simp only [Act.put, List.setIfInBounds_toArray, List.set_cons_zero, List.set_cons_succ, i64_w, i32_w]
                  rfl
                refine take_ (i := 5) (N := some 118) (v := ?_) (a' := ?_) #[true, true, true, true, true, true, false, false, false, true, false, false, true, false, false, false, false] rfl rfl (by kernel_rfl) (fun _ _ _ h => h) (Or.inl ⟨by rfl, ?_⟩) hHeld ?_ ?_
                rotate_left
                · rintro w' ⟨s0, s1, s2⟩
                  go_simp
                  with_reducible rfl
                rotate_left
                · simp only [Act.put, List.setIfInBounds_toArray, List.set_cons_zero, List.set_cons_succ, i64_w, i32_w]
                  rfl
                refine pure_ (i := 6) (N := some 119) (v := ?_) (a' := ?_) #[true, true, true, true, true, true, true, false, false, true, false, false, true, false, false, false, false] rfl rfl (by kernel_rfl) (fun _ _ _ h => h) (Or.inl ⟨by rfl, ?_⟩) ?_ ?_
                rotate_left
                · intro w'
                  go_simp
                  with_reducible rfl
                rotate_left
                · simp only [Act.put, List.setIfInBounds_toArray, List.set_cons_zero, List.set_cons_succ, i64_w, i32_w]
                  rfl
                refine pure_ (i := 7) (N := some 120) (v := ?_) (a' := ?_) #[true, true, true, true, true, true, true, true, false, true, false, false, true, false, false, false, false] rfl rfl (by kernel_rfl) (fun _ _ _ h => h) (Or.inl ⟨by rfl, ?_⟩) ?_ ?_
                rotate_left
                · intro w'
                  go_simp
                  with_reducible rfl
                rotate_left
                · simp only [Act.put, List.setIfInBounds_toArray, List.set_cons_zero, List.set_cons_succ, i64_w, i32_w]
                  rfl
                refine take_ (i := 8) (N := some 121) (v := ?_) (a' := ?_) #[true, true, true, true, true, true, true, true, true, true, false, false, true, false, false, false, false] rfl rfl (by kernel_rfl) (fun _ _ _ h => h) (Or.inl ⟨by rfl, ?_⟩) hHeld ?_ ?_
                rotate_left
                · rintro w' ⟨s0, s1, s2⟩
                  go_simp
                  with_reducible rfl
                rotate_left
                · simp only [Act.put, List.setIfInBounds_toArray, List.set_cons_zero, List.set_cons_succ, i64_w, i32_w]
                  rfl
                refine pure_ (i := 10) (N := some 123) (v := ?_) (a' := ?_) #[true, true, true, true, true, true, true, true, true, true, true, false, true, false, false, false, false] rfl rfl (by kernel_rfl) (fun _ _ _ h => h) (Or.inl ⟨by rfl, ?_⟩) ?_ ?_
                rotate_left
                · intro w'
                  go_simp
                  with_reducible rfl
                rotate_left
                · simp only [Act.put, List.setIfInBounds_toArray, List.set_cons_zero, List.set_cons_succ, i64_w, i32_w]
                  rfl
                refine take_ (i := 11) (N := some 124) (v := ?_) (a' := ?_) #[true, true, true, true, true, true, true, true, true, true, true, true, true, false, false, false, false] rfl rfl (by kernel_rfl) (fun _ _ _ h => h) (Or.inl ⟨by rfl, ?_⟩) hHeld ?_ ?_
                rotate_left
                · rintro w' ⟨s0, s1, s2⟩
                  go_simp
                  with_reducible rfl
                rotate_left
                · simp only [Act.put, List.setIfInBounds_toArray, List.set_cons_zero, List.set_cons_succ, i64_w, i32_w]
                  rfl
                refine one_ (i := 13) (N := some 126) #[true, true, true, true, true, true, true, true, true, true, true, true, true, true, false, false, false] rfl rfl (by kernel_rfl) (by decide) (fun K hK => ?_)
                have HA := Aside0.mk (HS.out.drew.M.alloc (.cells #[.int .i64 (i : Int)] 3 (0, 0)))
                refine value_ (w1 := ?_) (v := ?_) (by rfl) rfl ?_ ?_
                rotate_left 2
                · go_simp
                  constructor
                  · rfl
                  · rfl
                refine hK.out _ _ (⟨HA.out.cell 10 rfl rfl 0, HA.out.cell 0 rfl rfl 5, (HA.out.cell 2 rfl rfl b.toNat).trans HVR.out⟩) (fun hHeld => ?_)
                clear hK K
                refine norm_ (a' := ?_) ?_ ?_
                rotate_left
                · show Act.put _ (some 126) _ = _
                  simp only [Act.put, List.setIfInBounds_toArray, List.set_cons_zero, List.set_cons_succ, i64_w, i32_w]
                  rfl
                refine one_ (i := 14) (N := some 127) #[true, true, true, true, true, true, true, true, true, true, true, true, true, true, true, false, false] rfl rfl (by kernel_rfl) (by decide) (fun K hK => ?_)
                refine Kd.R_append_step (Kd.int .i64) (w0 := w0) (W := wy.drew) w0.heap.size (by simp [Region.wanted]) (.tmp 124) (.tmp 126) 26 3 (.int .i64 0) 8 rfl Try.underlying26 infoI rfl (by decide) (by omega) (.slice As xs.length cs) xs (i : Int) [.int .i64 (i : Int)] (fun k => lab wy.drew ℓj (2 * (1 + b.toNat) + 1) k = 2 * (1 + b.toNat) + 1) (fun _ => False) (by rfl) (by rfl) rfl (fun _ h => h.elim) (by exact HQ.out.2) HQ.out.1 HS.out.drew.M.below hbs (by omega) ?_
                intro vn w6 hR hB hg hat
                have el : (xs ++ [(i : Int)]).length = xs.length + 1 := by simp
                obtain ⟨Ao, co, eo⟩ := Kd.R_slice hR
                rw [el] at eo
                subst eo
                clear el
                have HM := Aside0.mk (HS.out.drew.M.appended _ HRW.out hR hg)
                clear hR hB hg hat
                refine hK.out _ _ (⟨HM.out.cell 10 rfl rfl 0, HM.out.cell 0 rfl rfl 5, (HM.out.cell 2 rfl rfl b.toNat).trans HVR.out⟩) (fun hHeld => ?_)
                clear hK K
                refine norm_ (a' := ?_) ?_ ?_
                rotate_left
                · show Act.put _ (some 127) _ = _
                  simp only [Act.put, List.setIfInBounds_toArray, List.set_cons_zero, List.set_cons_succ, i64_w, i32_w]
                  rfl
                refine pure_ (i := 15) (N := some 128) (v := ?_) (a' := ?_) #[true, true, true, true, true, true, true, true, true, true, true, true, true, true, true, true, false] rfl rfl (by kernel_rfl) (fun _ _ _ h => h) (Or.inl ⟨by rfl, ?_⟩) ?_ ?_
                rotate_left
                · intro w'
                  go_simp
                  with_reducible rfl
                rotate_left
                · simp only [Act.put, List.setIfInBounds_toArray, List.set_cons_zero, List.set_cons_succ, i64_w, i32_w]
                  rfl
                refine last_ (i := 16) (N := none) #[true, true, true, true, true, true, true, true, true, true, true, true, true, true, true, true, true] rfl rfl (by kernel_rfl) (by decide) (fun K hK => ?_)
                have dbr := (HM.out.cell 2 rfl rfl b.toNat).trans HVR.out
                have fbr := HM.out.froz 2 rfl rfl b.toNat
                refine skip_ (w1 := ?_) (by rfl) rfl ?_ ?_
                rotate_left
                · go_simp
                  rfl
                refine hK.out _ _ ?_
                clear hK K
                refine done_ (by kernel_rfl) ?_
                have HS2 := Aside0.mk (SvS.inPut HS.out.drew.L hb0 hb1 HM.out)
                clear cx c5 d1 HRW HQ HVR hbs dbr fbr HM HS HA
                generalize lab wy.drew ℓj _ = ℓ2 at HS2
                generalize w6.setCell ⟨B.bi, b.toNat, none⟩ (.slice Ao (xs.length + 1) co) = w7 at HS2 ⊢
                as_aux_lemma =>
                go_wp2_with fail
                go_roundw
                case rel => exact ⟨j + 1, _, _, _, _, _, by go_num, by omega, HS2, HI2⟩
                case measure => simp [intOf]; omega
              · have hI := HI.out
                rw [List.drop_of_length_le (by omega)] at hI
                simp only [insV, Option.some.injEq] at hI
                subst hI
                have htl := HTL.out
                clear HI HTL
                have cx : wy.cell? ⟨gx, 0, none⟩ = some (.pointer (some ⟨B.gs, 0, none⟩)) := HS.out.M.cell 10 rfl rfl 0
                have r1 : wy.cell? ⟨gr, 1, none⟩ = some (.int .i64 h) := HS.out.M.cell 11 rfl rfl 1
                have r2 : wy.cell? ⟨gr, 2, none⟩ = some (.slice Ab bs.length cb) := HS.out.M.cell 11 rfl rfl 2
                by_cases hbe : bs = []
                · rw [if_pos hbe] at htl
                  have HT := Aside0.mk htl
                  have t5 : ((bs.length : Int) == 0) = true := by simp [hbe]
                  clear htl hbe
                  go_wp2_with fail
                  refine (tell_any w0 wy ℓj B n m _ vtj vi vr sk s4 [gx, gr] _ [] h true 1 HS.out HT.out).mono ?_
                  rintro e w8 ⟨rfl, ℓ3, vt3, hS3⟩
                  have HS3 := Aside0.mk (SvS.dropBlk (bx := [gx]) (ox := [.cells #[.pointer (some ⟨B.gs, 0, none⟩)] 44 (0, 0)]) hS3)
                  clear hS3 HS cx r1 r2 t5
                  go_wp2_with fail
                  go_roundw
                  case rel => exact ⟨i + 1, _, _, _, _, _, by go_num, by omega, HS3, HF2⟩
                  case measure => simp [intOf]; omega
                · rw [if_neg hbe] at htl
                  have htl := Option.some.inj htl
                  subst htl
                  have t5 : ((bs.length : Int) == 0) = false := by simpa using hbe
                  have HS3 := Aside0.mk (SvS.dropBlk (bx := [gx]) (ox := [.cells #[.pointer (some ⟨B.gs, 0, none⟩)] 44 (0, 0)]) HS.out)
                  clear hbe
                  go_wp2_with fail
                  go_roundw
                  case rel => exact ⟨i + 1, _, _, _, _, _, by go_num, by omega, HS3, HF2⟩
                  case measure => simp [intOf]; omega
        · have hf := HF1.out
          rw [List.drop_of_length_le (by rw [irange_len]; omega)] at hf
          simp only [rulesV, Option.some.injEq] at hf
          subst hf
          clear HF1
          obtain ⟨wx, hwx⟩ : ∃ wx : World, wx = wr := ⟨_, rfl⟩
          subst hwx
          go_wp2_with fail
          go_loopw [140] (fun v140 wr => ∃ (j : Nat) (sk : SV) (ℓj : Nat → Nat) (vtj : Value), v140 = .int .i64 j ∧ j ≤ n ∧ Aside0 (SvS w0 wr ℓj B n m ⟨.int .i64 n, v1, .slice A2 m c2, v3⟩ vtj vi vr sk [gx] [.cells #[.pointer (some ⟨B.gs, 0, none⟩)] 44 (0, 0)] []) ∧ Aside0 (noneV n ((irange n).drop j) sk = some s3)) (fun v140 _ => n - (intOf v140).toNat)
          case atStart => exact ⟨0, _, _, _, rfl, Nat.zero_le _, HS, ⟨by simpa using H3.out⟩⟩
          case round =>
            clear HS H3
            clear vtj hi hlt
            obtain ⟨wy, hwy⟩ : ∃ wy : World, wy = wr := ⟨_, rfl⟩
            subst hwy
            obtain ⟨q, sk, ℓj, vtj, rfl, hq, HS, HN⟩ := hrel
            as_aux_lemma =>
            by_cases hqt : q < n
            · have hf := HN.out
              rw [irange_drop hqt] at hf
              simp only [noneV] at hf
              clear HN
              have hq0 : (0 : Int) ≤ (q : Int) := by omega
              have hq1 : (q : Int) < n := by omega
              have cx : wy.cell? ⟨gx, 0, none⟩ = some (.pointer (some ⟨B.gs, 0, none⟩)) := HS.out.M.cell 10 rfl rfl 0
              obtain ⟨_, _, _, _, _, _, _, _, _, c9, _⟩ := HS.out.cells
              have dle := HS.out.atLe hq0 hq1
              simp only [Int.toNat_natCast] at dle
              by_cases hz : ga sk.left q = 0
              · rw [if_pos hz] at hf
                obtain ⟨s5, hT, hf⟩ := Option.bind_eq_some_iff.1 hf
                have HT := Aside0.mk hT
                have HN := Aside0.mk hf
                have t1 : (ga sk.left q == 0) = true := by simpa using hz
                clear hz hT hf
                go_wp2_with fail
                refine (tell_any w0 wy ℓj B n m _ vtj vi vr sk s5 [gx] _ [] q false 1 HS.out HT.out).mono ?_
                rintro e w8 ⟨rfl, ℓ3, vt3, hS3⟩
                have HS3 := Aside0.mk hS3
                clear hS3 HS cx c9 dle t1
                go_wp2_with fail
                go_roundw
                case rel => exact ⟨q + 1, _, _, _, by go_num, by omega, HS3, HN⟩
                case measure => simp [intOf]; omega
              · rw [if_neg hz] at hf
                have HN := Aside0.mk hf
                have t1 : (ga sk.left q == 0) = false := by simpa using hz
                clear hz hf
                go_wp2_with fail
                go_roundw
                case rel => exact ⟨q + 1, _, _, _, by go_num, by omega, HS, HN⟩
                case measure => simp [intOf]; omega
            · have hf := HN.out
              rw [List.drop_of_length_le (by rw [irange_len]; omega)] at hf
              simp only [noneV, Option.some.injEq] at hf
              subst hf
              clear HN
              have cx : wy.cell? ⟨gx, 0, none⟩ = some (.pointer (some ⟨B.gs, 0, none⟩)) := HS.out.M.cell 10 rfl rfl 0
              have HS1 : Aside0 (SvS w0 _ _ B n m ⟨.int .i64 n, v1, .slice A2 m c2, v3⟩ vtj vi vr sk [gx, wy.heap.size] [.cells #[.pointer (some ⟨B.gs, 0, none⟩)] 44 (0, 0), .cells #[.pointer (some ⟨B.gs, 0, none⟩)] 44 (0, 0)] []) := ⟨HS.out.addBlk rfl (.cells #[.pointer (some ⟨B.gs, 0, none⟩)] 44 (0, 0))⟩
              go_wp2_with fail
              refine (work_any B.gs wy).mono ?_
              rintro e w9 ⟨rfl, rfl⟩
              obtain ⟨gw, hgw⟩ : ∃ gw, gw = wy.heap.size := ⟨_, rfl⟩
              rw [← hgw] at HS1 ⊢
              clear HS cx hgw
              generalize lab wy ℓj _ = ℓ1 at HS1
              generalize wy.alloc (.cells #[.pointer (some ⟨B.gs, 0, none⟩)] 44 (0, 0)) = w9 at HS1 ⊢
              as_aux_lemma =>
              go_wp2_with fail
              have HH : HeadsAt w0 A2 m hd := fun r r0 r1 => by
                obtain ⟨ad, _, _, rfl, _, k2, _⟩ := HR.out r r0 r1
                exact ⟨ad, rfl, (HB.out.cell (World.block_lt_of_cell? w _ k2)).trans k2⟩
              obtain ⟨K, σ, _, hs0, hsK, hst, hend⟩ := waveV_seq n 0 sk s' H4.out
              have hsz := HS1.out.M.below.size
              obtain ⟨I, hI⟩ : ∃ I : Nat → World → Prop, I = fun k W => ∃ (ℓk : Nat → Nat) (vtk : Value), SvS w0 W ℓk B n m ⟨.int .i64 n, v1, .slice A2 m c2, v3⟩ vtk vi vr (σ k) [gx, gw] [.cells #[.pointer (some ⟨B.gs, 0, none⟩)] 44 (0, 0), .cells #[.pointer (some ⟨B.gs, 0, none⟩)] 44 (0, 0)] [] := ⟨_, rfl⟩
              have hox : ∀ x, x ∈ [Obj.cells #[.pointer (some ⟨B.gs, 0, none⟩)] 44 (0, 0), .cells #[.pointer (some ⟨B.gs, 0, none⟩)] 44 (0, 0)] → x.isCells = true := fun x hx => by
                simp only [List.mem_cons, List.not_mem_nil, or_false] at hx
                rcases hx with (rfl | rfl) <;> rfl
              have hseq := work_seq gw B.gs σ I K (fun k W h => by
                rw [hI] at h
                obtain ⟨ℓk, vtk, h⟩ := h
                have hr := h.M.row 0 vtk _ rfl
                obtain ⟨Ar, cr, rfl⟩ := Kd.R_slice hr
                exact ⟨h.M.cell 11 rfl rfl 0, _, _, h.M.cell 0 rfl rfl 13, (Kd.R_reads' hr).2.2⟩) (fun k hk => (hst k (Nat.zero_le _) hk).1) hend
              refine wpIn_wide.1 (range_law1 (n := 9) (gf := 43) (lb := #[.pointer (some ⟨gw, 0, none⟩)]) 14 rfl (by decide) (by rfl) trivial (fun args W => enters_ Try.func43 (by kernel_rfl) rfl args W) _ I K hseq ?_ ?_ ?_ ?_ ?_)
              · intro k W l o o' h hl ho hc _
                rw [hI] at h ⊢
                obtain ⟨ℓk, vtk, h⟩ := h
                exact ⟨ℓk, vtk, h.put hox (Nat.le_trans hsz hl) ho hc⟩
              · intro o o'
                rw [hI]
                refine ⟨ℓ1, vtj, ?_⟩
                rw [hs0]
                exact (HS1.out.below (below_alloc (Below.refl _ _) o)).below (below_alloc (Below.refl _ _) o')
              · intro l k W Kq hk
                clear hst hend hseq hI H4 HH HR HB
                as_aux_lemma =>
                simp only [List.setIfInBounds_toArray, List.set_cons_zero, List.set_cons_succ] at hk ⊢
                gi_wp2
                exact hk
              · intro k W oD oL h hk hD hDc hL hLc
                rw [hI] at h
                obtain ⟨ℓk, vtk, h⟩ := h
                have hblt : ∀ b, b ∈ svBn B [gx, gw] → b < w9.heap.size := fun b hb => by
                  obtain ⟨c, hc⟩ := List.mem_iff_getElem?.1 hb
                  have hl : c < (svBn B [gx, gw]).length := (List.getElem?_eq_some_iff.1 hc).1
                  exact HS1.out.M.lt c hc (List.getElem?_eq_getElem (show c < (svOb B n m ⟨.int .i64 n, v1, .slice A2 m c2, v3⟩ vtj vi vr sk [.cells #[.pointer (some ⟨B.gs, 0, none⟩)] 44 (0, 0), .cells #[.pointer (some ⟨B.gs, 0, none⟩)] 44 (0, 0)]).length by simpa [svBn, svOb] using hl))
                have e1 := h.addOld rfl hD hDc hsz (fun hb => Nat.lt_irrefl _ (hblt _ hb))
                have e2 := e1.addOld rfl hL hLc (by omega) (fun hb => by
                  rcases List.mem_append.1 (show w9.heap.size + 1 ∈ svBn B [gx, gw] ++ [w9.heap.size] from hb) with hb | hb
                  · have := hblt _ hb; omega
                  · have := List.mem_singleton.1 hb; omega)
                have hs := (hst k (Nat.zero_le _) hk).2
                unfold stepV at hs
                by_cases hR : 0 ≤ rd (σ k).told k ∧ rd (σ k).told k < n
                rotate_left
                · rw [if_neg hR] at hs; cases hs
                rw [if_pos hR] at hs
                have HC := after_any w0 W _ B n m _ _ _ A2 c2 hd _ vi vr (σ k) (σ (k + 1)) _ _ [] (rd (σ k).told k) e2 HH hR.1 hR.2 hs
                have HF : ∀ (e : Ending) (W' : World), (e = .returned (.tuple #[]) ∧ ∃ ℓ' vt', SvS w0 W' ℓ' B n m ⟨.int .i64 n, v1, .slice A2 m c2, v3⟩ vt' vi vr (σ (k + 1)) ([gx, gw] ++ [w9.heap.size] ++ [w9.heap.size + 1]) ([Obj.cells #[.pointer (some ⟨B.gs, 0, none⟩)] 44 (0, 0), .cells #[.pointer (some ⟨B.gs, 0, none⟩)] 44 (0, 0)] ++ [oD] ++ [oL]) []) →
                    I (k + 1) W' ∧ W'.heap[w9.heap.size]? = some oD ∧ W'.heap[w9.heap.size + 1]? = some oL := by
                  rintro e W' ⟨_, ℓ', vt', h'⟩
                  rw [hI]
                  exact ⟨⟨ℓ', vt', SvS.dropBlk (bx := [gx, gw]) (bx' := [w9.heap.size, w9.heap.size + 1]) (ox' := [oD, oL]) h'⟩, (h'.M.fix 12 _ _ rfl rfl).1, (h'.M.fix 13 _ _ rfl rfl).1⟩
                have cg : W.cell? ⟨gx, 0, none⟩ = some (.pointer (some ⟨B.gs, 0, none⟩)) := h.M.cell 10 rfl rfl 0
                have HC := Aside0.mk HC
                have HF := Aside0.mk HF
                clear e1 e2 hblt hst hend hseq hI H4 HH HR HB hs hR hD hL h
                as_aux_lemma =>
                simp only [List.setIfInBounds_toArray, List.set_cons_zero, List.set_cons_succ]
                gi_wp2
                refine ⟨trivial, (CallsIn.inRound _ (callsIn_wide.2 HC.out)).mono ?_⟩
                rintro e W' he
                have hw := HF.out e W' he
                obtain ⟨rfl, _⟩ := he
                have HW := Aside0.mk hw
                clear hw HC HF cg
                gi_wp2
                exact HW.out
              · intro D W hD h hd
                rw [hI] at h
                obtain ⟨ℓk, vtk, h⟩ := h
                have cg : W.cell? ⟨gx, 0, none⟩ = some (.pointer (some ⟨B.gs, 0, none⟩)) := h.M.cell 10 rfl rfl 0
                rw [hsK] at h
                have HS2 := Aside0.mk h
                clear h hst hend hseq hI H4 HH HR HS1
                as_aux_lemma =>
                go_wp2_with fail
                refine ⟨by simp, .inl ⟨_, _, rfl, run_takeDeferred hd, ?_⟩⟩
                refine ⟨_, results_tmp rfl _ _ _, ?_⟩
                have h2 := HS2.out.put hox (o' := .deferred none) (Nat.le_trans hsz hD) hd rfl
                refine ⟨w0, ℓk, B, vtk, vi, vr, rfl, h2.drop0, HB.out, below_step HB.out h2.M.below⟩
end Go.Proofs.Ythlmpioijjnmnaa.P
