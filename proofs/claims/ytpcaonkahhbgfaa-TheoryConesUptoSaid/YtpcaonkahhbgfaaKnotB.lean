/- The program's search for knots, whole: it makes its memory, and visits each node that was not visited. -/
import Derived.Test.YtpcaonkahhbgfaaKnot
import Derived.Laws.MakeOwn
import Derived.Test.YtpcaonkahhbgfaaWTab
import Derived.Test.YtpcaonkahhbgfaaWInv
import Derived.Test.YtpcaonkahhbgfaaWGuard
namespace Go.Proofs.Ytpcaonkahhbgfaa.P
open Go.RowKit Go.Proofs.YtpcaonkahhbgfaaW.PrintWords Go.Proofs.YtpcaonkahhbgfaaW.PrintLast Go.Proofs.YtpcaonkahhbgfaaW.PrintMore Go.Proofs.Ytpcaonkahhbgfaa.K
set_option linter.unusedVariables false
set_option linter.unusedSimpArgs false

theorem visit_any (gN : Nat) (lb : Array Value) (nx : Int → List Int) (n : Nat) (hn : n ≤ 4096) (w0 : World) (B : KnB) (hN : NextOk gN lb nx n w0) (k : Nat) : ∀ (s : KS) (v : Int) (vst : Value) (w : World) (s' : KS),
    KnS w0 w B n (.func (.func gN) #[] lb) vst s → visitK nx n k s v = some s' →
    Calls Try.prog 43 #[.pointer (some ⟨B.g, 0, none⟩), .int .i64 v] w fun e w' => e = .returned (.tuple #[]) ∧ ∃ vst', KnS w0 w' B n (.func (.func gN) #[] lb) vst' s' := by
  induction k with
  | zero => intro s v vst w s' _ h; cases h
  | succ k ih => exact fun s v vst w s' hS h => visit_step gN lb nx n hn w0 B hN k ih s v vst w s' hS h

/-- make([]T, n) of elements of one cell: the new block, exactly. -/
theorem mk_run {P : Program} (t e : TypeId) (z : Value) (bytes : Nat) (ht : P.underlying t = some (.slice e)) (hinfo : (P.info? e).map (fun i => (i.zero, i.size, i.bytes)) = some (some z, 1, bytes)) (hz : z.cells = #[z]) (n : Nat) (hn : n * bytes ≤ 281474976710656) (hb : 0 < bytes) (w : World) :
    (Instr.makeSlice t (.int .i64 n) (.int .i64 n)).run P w = .ok (.slice (some ⟨w.heap.size, 0, none⟩) n n) (w.alloc (.cells (List.replicate n z).toArray e)) := by
  obtain ⟨i0, hi, hzz⟩ := Option.map_eq_some_iff.1 hinfo
  simp only [Prod.mk.injEq] at hzz
  obtain ⟨hz0, hz1, hz2⟩ := hzz
  have hnn : n ≤ 281474976710656 := Nat.le_trans (Nat.le_mul_of_pos_right _ hb) hn
  have h3 : ((i0.bytes * n : Nat) : Int) ≤ 281474976710656 := by rw [hz2, Nat.mul_comm]; omega
  have hr := run_make (P := P) w t e i0 z ht hi hz0 .i64 .i64 (n : Int) (n : Int) (by omega) (by omega) (by rwa [Int.natCast_mul] at h3) (by omega)
  rw [hr, hz1, hz]
  have : madeCells #[z] (Int.toNat (n : Int) * 1) = (List.replicate n z).toArray := by
    simp [madeCells]
    apply Array.ext
    · simp
    · intro i h1 h2
      simp [Nat.mod_one]
  rw [this]
  simp
theorem infoB : (Try.prog.info? 4).map (fun i => (i.zero, i.size, i.bytes)) = some (some (.bool false), 1, 1) := by kernel_rfl
def knot1.T : Bool × List (List Nat × List Nat) := (true, [([], []), ([], []), ([1, 1], [1]), ([], []), ([3, 3], [3]), ([], []), ([5, 5], [5]), ([], []), ([7, 7], [7]), ([0, 2, 4, 6, 8], [0, 2, 4, 6, 8]), ([9], [9]), ([10, 0, 1, 2, 3, 4, 5, 6, 7, 8, 9, 10], [10])])
def knot1.B : List Nat := [0, 0, 2, 0, 8, 0, 32, 0, 128, 511, 1023, 2047]
theorem knot1.tab : rtab .any (opsOf Try.f33 1) = knot1.T := by kernel_rfl
theorem knot1.bits : waitsOk knot1.T.2 knot1.B = true := by kernel_rfl
set_option maxHeartbeats 4000000 in
set_option maxRecDepth 100000 in
theorem knot_any (gN : Nat) (lb : Array Value) (nx : Int → List Int) (n : Nat) (hn : n ≤ 4096) (w : World) (hN : NextOk gN lb nx n w) (s : KS) (h : knotK nx n = some s) :
    Calls Try.prog 33 #[.int .i64 n, .func (.func gN) #[] lb] w fun e w' => ∃ (B : KnB) (vst : Value), e = .returned (.pointer (some ⟨B.g, 0, none⟩)) ∧ KnS w w' B n (.func (.func gN) #[] lb) vst s := by
  have MI := fun w => mk_run (P := Try.prog) 26 3 (.int .i64 0) 8 Try.underlying26 infoI rfl n (by omega) (by omega) w
  have MB := fun w => mk_run (P := Try.prog) 33 4 (.bool false) 1 Try.underlying33 infoB rfl n (by omega) (by omega) w
  have HN := Aside0.mk hN
  have H := Lib.hid h
  have HB := Aside0.mk (Below.refl w.heap.size w)
  clear hN h
  go_enter Try.func33, Try.ntmps33
  go_wp2_with fail
  refine start_ (n := 12) (S := fun w' => True) (ds := []) #[false, false, false, false, false, false, false, false, false, false, false, false] (by kernel_rfl) rfl rfl trivial (fun hHeld => ?_)
  refine with_tabW knot1.tab knot1.bits (fun HT_ HW_ => ?_)
  have HB1 := Aside0.mk (below_drew HB.out)
  generalize w.drew = w1 at HB1 hHeld ⊢
  refine pure_ (i := 0) (N := some 7) (v := ?_) (a' := ?_) #[true, false, false, false, false, false, false, false, false, false, false, false] rfl rfl (any_of HT_.out (by kernel_rfl)) (fun _ _ _ h => h) (Or.inl ⟨by rfl, ?_⟩) ?_ ?_
  rotate_left
  · intro w'
    go_simp
    with_reducible rfl
  rotate_left
  · simp only [Act.put, List.setIfInBounds_toArray, List.set_cons_zero, List.set_cons_succ, i64_w, i32_w]
    rfl
  refine pure_ (i := 1) (N := some 8) (v := ?_) (a' := ?_) #[true, true, false, false, false, false, false, false, false, false, false, false] rfl rfl (any_of HT_.out (by kernel_rfl)) (fun _ _ _ h => h) (Or.inl ⟨by rfl, ?_⟩) ?_ ?_
  rotate_left
  · intro w'
    go_simp
    with_reducible rfl
  rotate_left
  · simp only [Act.put, List.setIfInBounds_toArray, List.set_cons_zero, List.set_cons_succ, i64_w, i32_w]
    rfl
  refine pure_ (i := 3) (N := some 10) (v := ?_) (a' := ?_) #[true, true, false, true, false, false, false, false, false, false, false, false] rfl rfl (any_of HT_.out (by kernel_rfl)) (fun _ _ _ h => h) (Or.inl ⟨by rfl, ?_⟩) ?_ ?_
  rotate_left
  · intro w'
    go_simp
    with_reducible rfl
  rotate_left
  · simp only [Act.put, List.setIfInBounds_toArray, List.set_cons_zero, List.set_cons_succ, i64_w, i32_w]
    rfl
  refine pure_ (i := 5) (N := some 12) (v := ?_) (a' := ?_) #[true, true, false, true, false, true, false, false, false, false, false, false] rfl rfl (any_of HT_.out (by kernel_rfl)) (fun _ _ _ h => h) (Or.inl ⟨by rfl, ?_⟩) ?_ ?_
  rotate_left
  · intro w'
    go_simp
    with_reducible rfl
  rotate_left
  · simp only [Act.put, List.setIfInBounds_toArray, List.set_cons_zero, List.set_cons_succ, i64_w, i32_w]
    rfl
  refine pure_ (i := 7) (N := some 14) (v := ?_) (a' := ?_) #[true, true, false, true, false, true, false, true, false, false, false, false] rfl rfl (any_of HT_.out (by kernel_rfl)) (fun _ _ _ h => h) (Or.inl ⟨by rfl, ?_⟩) ?_ ?_
  rotate_left
  · intro w'
    go_simp
    with_reducible rfl
  rotate_left
  · simp only [Act.put, List.setIfInBounds_toArray, List.set_cons_zero, List.set_cons_succ, i64_w, i32_w]
    rfl
  refine inv_at [2, 4, 6, 8, 9, 10, 11] (fun a0_ b a w' => ∃ (gi : Nat) (gl : Nat) (go_ : Nat) (gf : Nat) (gb : Nat) (m2_ : Value) (m4_ : Value) (m6_ : Value) (m8_ : Value) (m9_ : Value) (m10_ : Value) (m11_ : Value), a = putSel a0_ b [(2, 9, m2_), (4, 11, m4_), (6, 13, m6_), (8, 15, m8_), (9, 16, m9_), (10, 17, m10_), (11, 5, m11_)] ∧ (b 2 = true → w'.heap[gi]? = some (.cells (ints (List.replicate n 0)) 3 (0, 0)) ∧ w.heap.size ≤ gi) ∧ (b 4 = true → w'.heap[gl]? = some (.cells (ints (List.replicate n 0)) 3 (0, 0)) ∧ w.heap.size ≤ gl) ∧ (b 6 = true → w'.heap[go_]? = some (.cells (bls (List.replicate n false)) 4 (0, 0)) ∧ w.heap.size ≤ go_) ∧ (b 8 = true → w'.heap[gf]? = some (.cells (ints (List.replicate n 0)) 3 (0, 0)) ∧ w.heap.size ≤ gf) ∧ (b 2 = true → b 4 = true → gi ≠ gl) ∧ (b 2 = true → b 6 = true → gi ≠ go_) ∧ (b 2 = true → b 8 = true → gi ≠ gf) ∧ (b 4 = true → b 6 = true → gl ≠ go_) ∧ (b 4 = true → b 8 = true → gl ≠ gf) ∧ (b 6 = true → b 8 = true → go_ ≠ gf) ∧ (b 2 = true → b 4 = true → b 6 = true → b 8 = true → b 10 = true → w'.heap[gb]? = some (.cells #[.func (.func gN) #[] lb, .slice (some ⟨gi, 0, none⟩) n n, .slice (some ⟨gl, 0, none⟩) n n, .slice (some ⟨go_, 0, none⟩) n n, .slice none 0 0, .slice (some ⟨gf, 0, none⟩) n n, .int .i64 0, .int .i64 0] 72 (0, 0)) ∧ w.heap.size ≤ gb) ∧ (Below w.heap.size w w') ∧ (b 2 = true → (m2_ : Value) = .slice (some ⟨gi, 0, none⟩) n n) ∧ (b 4 = true → (m4_ : Value) = .slice (some ⟨gl, 0, none⟩) n n) ∧ (b 6 = true → (m6_ : Value) = .slice (some ⟨go_, 0, none⟩) n n) ∧ (b 8 = true → (m8_ : Value) = .slice (some ⟨gf, 0, none⟩) n n) ∧ (b 9 = true → (m9_ : Value) = .agg #[.func (.func gN) #[] lb, .slice (some ⟨gi, 0, none⟩) n n, .slice (some ⟨gl, 0, none⟩) n n, .slice (some ⟨go_, 0, none⟩) n n, .slice none 0 0, .slice (some ⟨gf, 0, none⟩) n n, .int .i64 0, .int .i64 0]) ∧ (b 10 = true → (m10_ : Value) = .pointer (some ⟨gb, 0, none⟩)) ∧ (b 11 = true → (m11_ : Value) = .pointer (some ⟨gb, 0, none⟩))) HT_.out HW_.out (by kernel_rfl) (by kernel_rfl) ?_ ?_ ?_
  · exact ⟨0, 0, 0, 0, 0, .bool false, .bool false, .bool false, .bool false, .bool false, .bool false, .bool false, by simp only [putSel, Bool.false_eq_true, if_false], fun h_ => absurd h_ (by decide), fun h_ => absurd h_ (by decide), fun h_ => absurd h_ (by decide), fun h_ => absurd h_ (by decide), fun h_ => absurd h_ (by decide), fun h_ => absurd h_ (by decide), fun h_ => absurd h_ (by decide), fun h_ => absurd h_ (by decide), fun h_ => absurd h_ (by decide), fun h_ => absurd h_ (by decide), fun h_ => absurd h_ (by decide), HB1.out, fun h_ => absurd h_ (by decide), fun h_ => absurd h_ (by decide), fun h_ => absurd h_ (by decide), fun h_ => absurd h_ (by decide), fun h_ => absurd h_ (by decide), fun h_ => absurd h_ (by decide), fun h_ => absurd h_ (by decide)⟩
  · skip
    clear HB1
    refine steps_cons ?_ ?_
    · rintro b a w' ⟨gi, gl, go_, gf, gb, m2_, m4_, m6_, m8_, m9_, m10_, m11_, ha, Q_K_gi, Q_K_gl, Q_K_go_, Q_K_gf, Q_D_gi_gl, Q_D_gi_go_, Q_D_gi_gf, Q_D_gl_go_, Q_D_gl_gf, Q_D_go__gf, Q_BX, Q_HB1, Q_X2_, Q_X4_, Q_X6_, Q_X8_, Q_X9_, Q_X10_, Q_X11_⟩ hb_ hon hoff
      refine ⟨_, rfl, fun K hK => ?_⟩
      have e8 : a.tmps[8]? = some (.int .i64 n) := by rw [ha]; exact (putSel_off rfl).trans rfl
      replace ha := Aside0.mk ha
      have HB1 := Aside0.mk Q_HB1
      refine value_ (w1 := w'.alloc (.cells (ints (List.replicate n 0)) 3)) (v := .slice (some ⟨w'.heap.size, 0, none⟩) n n) (by rfl) rfl ?_ ?_
      · go_simp
        simp [ints, bls, nums, bools]
      refine hK.out _ _ ⟨w'.heap.size, gl, go_, gf, gb, (.slice (some ⟨w'.heap.size, 0, none⟩) n n), m4_, m6_, m8_, m9_, m10_, m11_, (by rw [ha.out]; exact putSel_upk 0 hb_ rfl rfl rfl), fun _ => ⟨by simpa [ints, bls, nums, bools] using blk_new w' (.cells (ints (List.replicate n 0)) 3 (0, 0)), (HB1.out).size⟩, fun h0_ => ⟨blk_alloc (Q_K_gl h0_).1 _, (Q_K_gl h0_).2⟩, fun h0_ => ⟨blk_alloc (Q_K_go_ h0_).1 _, (Q_K_go_ h0_).2⟩, fun h0_ => ⟨blk_alloc (Q_K_gf h0_).1 _, (Q_K_gf h0_).2⟩, fun _ h1_ => Nat.ne_of_gt (blk_lt (Q_K_gl h1_).1), fun _ h1_ => Nat.ne_of_gt (blk_lt (Q_K_go_ h1_).1), fun _ h1_ => Nat.ne_of_gt (blk_lt (Q_K_gf h1_).1), Q_D_gl_go_, Q_D_gl_gf, Q_D_go__gf, fun _ _ _ _ h4_ => absurd ((hoff 10 (by kernel_rfl)).symm.trans h4_) (by decide), below_alloc HB1.out _, fun _ => rfl, Q_X4_, Q_X6_, Q_X8_, fun h0_ => absurd ((hoff 9 (by kernel_rfl)).symm.trans h0_) (by decide), fun h0_ => absurd ((hoff 10 (by kernel_rfl)).symm.trans h0_) (by decide), fun h0_ => absurd ((hoff 11 (by kernel_rfl)).symm.trans h0_) (by decide)⟩
    refine steps_cons ?_ ?_
    · rintro b a w' ⟨gi, gl, go_, gf, gb, m2_, m4_, m6_, m8_, m9_, m10_, m11_, ha, Q_K_gi, Q_K_gl, Q_K_go_, Q_K_gf, Q_D_gi_gl, Q_D_gi_go_, Q_D_gi_gf, Q_D_gl_go_, Q_D_gl_gf, Q_D_go__gf, Q_BX, Q_HB1, Q_X2_, Q_X4_, Q_X6_, Q_X8_, Q_X9_, Q_X10_, Q_X11_⟩ hb_ hon hoff
      refine ⟨_, rfl, fun K hK => ?_⟩
      have e10 : a.tmps[10]? = some (.int .i64 n) := by rw [ha]; exact (putSel_off rfl).trans rfl
      replace ha := Aside0.mk ha
      have HB1 := Aside0.mk Q_HB1
      refine value_ (w1 := w'.alloc (.cells (ints (List.replicate n 0)) 3)) (v := .slice (some ⟨w'.heap.size, 0, none⟩) n n) (by rfl) rfl ?_ ?_
      · go_simp
        simp [ints, bls, nums, bools]
      refine hK.out _ _ ⟨gi, w'.heap.size, go_, gf, gb, m2_, (.slice (some ⟨w'.heap.size, 0, none⟩) n n), m6_, m8_, m9_, m10_, m11_, (by rw [ha.out]; exact putSel_upk 1 hb_ rfl rfl rfl), fun h0_ => ⟨blk_alloc (Q_K_gi h0_).1 _, (Q_K_gi h0_).2⟩, fun _ => ⟨by simpa [ints, bls, nums, bools] using blk_new w' (.cells (ints (List.replicate n 0)) 3 (0, 0)), (HB1.out).size⟩, fun h0_ => ⟨blk_alloc (Q_K_go_ h0_).1 _, (Q_K_go_ h0_).2⟩, fun h0_ => ⟨blk_alloc (Q_K_gf h0_).1 _, (Q_K_gf h0_).2⟩, fun h0_ _ => Nat.ne_of_lt (blk_lt (Q_K_gi h0_).1), Q_D_gi_go_, Q_D_gi_gf, fun _ h1_ => Nat.ne_of_gt (blk_lt (Q_K_go_ h1_).1), fun _ h1_ => Nat.ne_of_gt (blk_lt (Q_K_gf h1_).1), Q_D_go__gf, fun _ _ _ _ h4_ => absurd ((hoff 10 (by kernel_rfl)).symm.trans h4_) (by decide), below_alloc HB1.out _, Q_X2_, fun _ => rfl, Q_X6_, Q_X8_, fun h0_ => absurd ((hoff 9 (by kernel_rfl)).symm.trans h0_) (by decide), fun h0_ => absurd ((hoff 10 (by kernel_rfl)).symm.trans h0_) (by decide), fun h0_ => absurd ((hoff 11 (by kernel_rfl)).symm.trans h0_) (by decide)⟩
    refine steps_cons ?_ ?_
    · rintro b a w' ⟨gi, gl, go_, gf, gb, m2_, m4_, m6_, m8_, m9_, m10_, m11_, ha, Q_K_gi, Q_K_gl, Q_K_go_, Q_K_gf, Q_D_gi_gl, Q_D_gi_go_, Q_D_gi_gf, Q_D_gl_go_, Q_D_gl_gf, Q_D_go__gf, Q_BX, Q_HB1, Q_X2_, Q_X4_, Q_X6_, Q_X8_, Q_X9_, Q_X10_, Q_X11_⟩ hb_ hon hoff
      refine ⟨_, rfl, fun K hK => ?_⟩
      have e12 : a.tmps[12]? = some (.int .i64 n) := by rw [ha]; exact (putSel_off rfl).trans rfl
      replace ha := Aside0.mk ha
      have HB1 := Aside0.mk Q_HB1
      refine value_ (w1 := w'.alloc (.cells (bls (List.replicate n false)) 4)) (v := .slice (some ⟨w'.heap.size, 0, none⟩) n n) (by rfl) rfl ?_ ?_
      · go_simp
        simp [ints, bls, nums, bools]
      refine hK.out _ _ ⟨gi, gl, w'.heap.size, gf, gb, m2_, m4_, (.slice (some ⟨w'.heap.size, 0, none⟩) n n), m8_, m9_, m10_, m11_, (by rw [ha.out]; exact putSel_upk 2 hb_ rfl rfl rfl), fun h0_ => ⟨blk_alloc (Q_K_gi h0_).1 _, (Q_K_gi h0_).2⟩, fun h0_ => ⟨blk_alloc (Q_K_gl h0_).1 _, (Q_K_gl h0_).2⟩, fun _ => ⟨by simpa [ints, bls, nums, bools] using blk_new w' (.cells (bls (List.replicate n false)) 4 (0, 0)), (HB1.out).size⟩, fun h0_ => ⟨blk_alloc (Q_K_gf h0_).1 _, (Q_K_gf h0_).2⟩, Q_D_gi_gl, fun h0_ _ => Nat.ne_of_lt (blk_lt (Q_K_gi h0_).1), Q_D_gi_gf, fun h0_ _ => Nat.ne_of_lt (blk_lt (Q_K_gl h0_).1), Q_D_gl_gf, fun _ h1_ => Nat.ne_of_gt (blk_lt (Q_K_gf h1_).1), fun _ _ _ _ h4_ => absurd ((hoff 10 (by kernel_rfl)).symm.trans h4_) (by decide), below_alloc HB1.out _, Q_X2_, Q_X4_, fun _ => rfl, Q_X8_, fun h0_ => absurd ((hoff 9 (by kernel_rfl)).symm.trans h0_) (by decide), fun h0_ => absurd ((hoff 10 (by kernel_rfl)).symm.trans h0_) (by decide), fun h0_ => absurd ((hoff 11 (by kernel_rfl)).symm.trans h0_) (by decide)⟩
    refine steps_cons ?_ ?_
    · rintro b a w' ⟨gi, gl, go_, gf, gb, m2_, m4_, m6_, m8_, m9_, m10_, m11_, ha, Q_K_gi, Q_K_gl, Q_K_go_, Q_K_gf, Q_D_gi_gl, Q_D_gi_go_, Q_D_gi_gf, Q_D_gl_go_, Q_D_gl_gf, Q_D_go__gf, Q_BX, Q_HB1, Q_X2_, Q_X4_, Q_X6_, Q_X8_, Q_X9_, Q_X10_, Q_X11_⟩ hb_ hon hoff
      refine ⟨_, rfl, fun K hK => ?_⟩
      have e14 : a.tmps[14]? = some (.int .i64 n) := by rw [ha]; exact (putSel_off rfl).trans rfl
      replace ha := Aside0.mk ha
      have HB1 := Aside0.mk Q_HB1
      refine value_ (w1 := w'.alloc (.cells (ints (List.replicate n 0)) 3)) (v := .slice (some ⟨w'.heap.size, 0, none⟩) n n) (by rfl) rfl ?_ ?_
      · go_simp
        simp [ints, bls, nums, bools]
      refine hK.out _ _ ⟨gi, gl, go_, w'.heap.size, gb, m2_, m4_, m6_, (.slice (some ⟨w'.heap.size, 0, none⟩) n n), m9_, m10_, m11_, (by rw [ha.out]; exact putSel_upk 3 hb_ rfl rfl rfl), fun h0_ => ⟨blk_alloc (Q_K_gi h0_).1 _, (Q_K_gi h0_).2⟩, fun h0_ => ⟨blk_alloc (Q_K_gl h0_).1 _, (Q_K_gl h0_).2⟩, fun h0_ => ⟨blk_alloc (Q_K_go_ h0_).1 _, (Q_K_go_ h0_).2⟩, fun _ => ⟨by simpa [ints, bls, nums, bools] using blk_new w' (.cells (ints (List.replicate n 0)) 3 (0, 0)), (HB1.out).size⟩, Q_D_gi_gl, Q_D_gi_go_, fun h0_ _ => Nat.ne_of_lt (blk_lt (Q_K_gi h0_).1), Q_D_gl_go_, fun h0_ _ => Nat.ne_of_lt (blk_lt (Q_K_gl h0_).1), fun h0_ _ => Nat.ne_of_lt (blk_lt (Q_K_go_ h0_).1), fun _ _ _ _ h4_ => absurd ((hoff 10 (by kernel_rfl)).symm.trans h4_) (by decide), below_alloc HB1.out _, Q_X2_, Q_X4_, Q_X6_, fun _ => rfl, fun h0_ => absurd ((hoff 9 (by kernel_rfl)).symm.trans h0_) (by decide), fun h0_ => absurd ((hoff 10 (by kernel_rfl)).symm.trans h0_) (by decide), fun h0_ => absurd ((hoff 11 (by kernel_rfl)).symm.trans h0_) (by decide)⟩
    refine steps_cons ?_ ?_
    · rintro b a w' ⟨gi, gl, go_, gf, gb, m2_, m4_, m6_, m8_, m9_, m10_, m11_, ha, Q_K_gi, Q_K_gl, Q_K_go_, Q_K_gf, Q_D_gi_gl, Q_D_gi_go_, Q_D_gi_gf, Q_D_gl_go_, Q_D_gl_gf, Q_D_go__gf, Q_BX, Q_HB1, Q_X2_, Q_X4_, Q_X6_, Q_X8_, Q_X9_, Q_X10_, Q_X11_⟩ hb_ hon hoff
      refine ⟨_, rfl, fun K hK => ?_⟩
      have e7 : a.tmps[7]? = some (.func (.func gN) #[] lb) := by rw [ha]; exact (putSel_off rfl).trans rfl
      have e9 : a.tmps[9]? = some (m2_) := by rw [ha]; exact putSel_on (e := (2, 9, m2_)) 0 rfl rfl (hon 2 (by kernel_rfl)) rfl
      rw [Q_X2_ (hon 2 (by kernel_rfl))] at e9
      have e11 : a.tmps[11]? = some (m4_) := by rw [ha]; exact putSel_on (e := (4, 11, m4_)) 1 rfl rfl (hon 4 (by kernel_rfl)) rfl
      rw [Q_X4_ (hon 4 (by kernel_rfl))] at e11
      have e13 : a.tmps[13]? = some (m6_) := by rw [ha]; exact putSel_on (e := (6, 13, m6_)) 2 rfl rfl (hon 6 (by kernel_rfl)) rfl
      rw [Q_X6_ (hon 6 (by kernel_rfl))] at e13
      have e15 : a.tmps[15]? = some (m8_) := by rw [ha]; exact putSel_on (e := (8, 15, m8_)) 3 rfl rfl (hon 8 (by kernel_rfl)) rfl
      rw [Q_X8_ (hon 8 (by kernel_rfl))] at e15
      replace ha := Aside0.mk ha
      have K_gi := Aside0.mk (Q_K_gi (hon 2 (by kernel_rfl)))
      have K_gl := Aside0.mk (Q_K_gl (hon 4 (by kernel_rfl)))
      have K_go_ := Aside0.mk (Q_K_go_ (hon 6 (by kernel_rfl)))
      have K_gf := Aside0.mk (Q_K_gf (hon 8 (by kernel_rfl)))
      have D_gi_gl := Aside0.mk (Q_D_gi_gl (hon 2 (by kernel_rfl)) (hon 4 (by kernel_rfl)))
      have D_gi_go_ := Aside0.mk (Q_D_gi_go_ (hon 2 (by kernel_rfl)) (hon 6 (by kernel_rfl)))
      have D_gi_gf := Aside0.mk (Q_D_gi_gf (hon 2 (by kernel_rfl)) (hon 8 (by kernel_rfl)))
      have D_gl_go_ := Aside0.mk (Q_D_gl_go_ (hon 4 (by kernel_rfl)) (hon 6 (by kernel_rfl)))
      have D_gl_gf := Aside0.mk (Q_D_gl_gf (hon 4 (by kernel_rfl)) (hon 8 (by kernel_rfl)))
      have D_go__gf := Aside0.mk (Q_D_go__gf (hon 6 (by kernel_rfl)) (hon 8 (by kernel_rfl)))
      have HB1 := Aside0.mk Q_HB1
      refine value_ (w1 := w') (v := .agg #[.func (.func gN) #[] lb, .slice (some ⟨gi, 0, none⟩) n n, .slice (some ⟨gl, 0, none⟩) n n, .slice (some ⟨go_, 0, none⟩) n n, .slice none 0 0, .slice (some ⟨gf, 0, none⟩) n n, .int .i64 0, .int .i64 0]) (by rfl) rfl ?_ ?_
      · go_simp
        (try simp only [i64_w])
        try rfl
      refine hK.out _ _ ⟨gi, gl, go_, gf, gb, m2_, m4_, m6_, m8_, (.agg #[.func (.func gN) #[] lb, .slice (some ⟨gi, 0, none⟩) n n, .slice (some ⟨gl, 0, none⟩) n n, .slice (some ⟨go_, 0, none⟩) n n, .slice none 0 0, .slice (some ⟨gf, 0, none⟩) n n, .int .i64 0, .int .i64 0]), m10_, m11_, (by rw [ha.out]; exact putSel_upk 4 hb_ rfl rfl rfl), Q_K_gi, Q_K_gl, Q_K_go_, Q_K_gf, Q_D_gi_gl, Q_D_gi_go_, Q_D_gi_gf, Q_D_gl_go_, Q_D_gl_gf, Q_D_go__gf, fun _ _ _ _ h4_ => absurd ((hoff 10 (by kernel_rfl)).symm.trans h4_) (by decide), Q_HB1, Q_X2_, Q_X4_, Q_X6_, Q_X8_, fun _ => rfl, fun h0_ => absurd ((hoff 10 (by kernel_rfl)).symm.trans h0_) (by decide), fun h0_ => absurd ((hoff 11 (by kernel_rfl)).symm.trans h0_) (by decide)⟩
    refine steps_cons ?_ ?_
    · rintro b a w' ⟨gi, gl, go_, gf, gb, m2_, m4_, m6_, m8_, m9_, m10_, m11_, ha, Q_K_gi, Q_K_gl, Q_K_go_, Q_K_gf, Q_D_gi_gl, Q_D_gi_go_, Q_D_gi_gf, Q_D_gl_go_, Q_D_gl_gf, Q_D_go__gf, Q_BX, Q_HB1, Q_X2_, Q_X4_, Q_X6_, Q_X8_, Q_X9_, Q_X10_, Q_X11_⟩ hb_ hon hoff
      refine ⟨_, rfl, fun K hK => ?_⟩
      have e16 : a.tmps[16]? = some (m9_) := by rw [ha]; exact putSel_on (e := (9, 16, m9_)) 4 rfl rfl (hon 9 (by kernel_rfl)) rfl
      rw [Q_X9_ (hon 9 (by kernel_rfl))] at e16
      replace ha := Aside0.mk ha
      have K_gi := Aside0.mk (Q_K_gi (hon 2 (by kernel_rfl)))
      have K_gl := Aside0.mk (Q_K_gl (hon 4 (by kernel_rfl)))
      have K_go_ := Aside0.mk (Q_K_go_ (hon 6 (by kernel_rfl)))
      have K_gf := Aside0.mk (Q_K_gf (hon 8 (by kernel_rfl)))
      have D_gi_gl := Aside0.mk (Q_D_gi_gl (hon 2 (by kernel_rfl)) (hon 4 (by kernel_rfl)))
      have D_gi_go_ := Aside0.mk (Q_D_gi_go_ (hon 2 (by kernel_rfl)) (hon 6 (by kernel_rfl)))
      have D_gi_gf := Aside0.mk (Q_D_gi_gf (hon 2 (by kernel_rfl)) (hon 8 (by kernel_rfl)))
      have D_gl_go_ := Aside0.mk (Q_D_gl_go_ (hon 4 (by kernel_rfl)) (hon 6 (by kernel_rfl)))
      have D_gl_gf := Aside0.mk (Q_D_gl_gf (hon 4 (by kernel_rfl)) (hon 8 (by kernel_rfl)))
      have D_go__gf := Aside0.mk (Q_D_go__gf (hon 6 (by kernel_rfl)) (hon 8 (by kernel_rfl)))
      have HB1 := Aside0.mk Q_HB1
      refine value_ (w1 := w'.alloc (.cells #[.func (.func gN) #[] lb, .slice (some ⟨gi, 0, none⟩) n n, .slice (some ⟨gl, 0, none⟩) n n, .slice (some ⟨go_, 0, none⟩) n n, .slice none 0 0, .slice (some ⟨gf, 0, none⟩) n n, .int .i64 0, .int .i64 0] 72)) (v := .pointer (some ⟨w'.heap.size, 0, none⟩)) (by rfl) rfl ?_ ?_
      · go_simp
      refine hK.out _ _ ⟨gi, gl, go_, gf, w'.heap.size, m2_, m4_, m6_, m8_, m9_, (.pointer (some ⟨w'.heap.size, 0, none⟩)), m11_, (by rw [ha.out]; exact putSel_upk 5 hb_ rfl rfl rfl), fun _ => ⟨blk_alloc K_gi.out.1 _, K_gi.out.2⟩, fun _ => ⟨blk_alloc K_gl.out.1 _, K_gl.out.2⟩, fun _ => ⟨blk_alloc K_go_.out.1 _, K_go_.out.2⟩, fun _ => ⟨blk_alloc K_gf.out.1 _, K_gf.out.2⟩, Q_D_gi_gl, Q_D_gi_go_, Q_D_gi_gf, Q_D_gl_go_, Q_D_gl_gf, Q_D_go__gf, fun _ _ _ _ _ => ⟨blk_new w' _, (HB1.out).size⟩, below_alloc HB1.out _, Q_X2_, Q_X4_, Q_X6_, Q_X8_, Q_X9_, fun _ => rfl, fun h0_ => absurd ((hoff 11 (by kernel_rfl)).symm.trans h0_) (by decide)⟩
    refine steps_cons ?_ ?_
    · rintro b a w' ⟨gi, gl, go_, gf, gb, m2_, m4_, m6_, m8_, m9_, m10_, m11_, ha, Q_K_gi, Q_K_gl, Q_K_go_, Q_K_gf, Q_D_gi_gl, Q_D_gi_go_, Q_D_gi_gf, Q_D_gl_go_, Q_D_gl_gf, Q_D_go__gf, Q_BX, Q_HB1, Q_X2_, Q_X4_, Q_X6_, Q_X8_, Q_X9_, Q_X10_, Q_X11_⟩ hb_ hon hoff
      refine ⟨_, rfl, fun K hK => ?_⟩
      have e17 : a.tmps[17]? = some (m10_) := by rw [ha]; exact putSel_on (e := (10, 17, m10_)) 5 rfl rfl (hon 10 (by kernel_rfl)) rfl
      rw [Q_X10_ (hon 10 (by kernel_rfl))] at e17
      replace ha := Aside0.mk ha
      have K_gi := Aside0.mk (Q_K_gi (hon 2 (by kernel_rfl)))
      have K_gl := Aside0.mk (Q_K_gl (hon 4 (by kernel_rfl)))
      have K_go_ := Aside0.mk (Q_K_go_ (hon 6 (by kernel_rfl)))
      have K_gf := Aside0.mk (Q_K_gf (hon 8 (by kernel_rfl)))
      have D_gi_gl := Aside0.mk (Q_D_gi_gl (hon 2 (by kernel_rfl)) (hon 4 (by kernel_rfl)))
      have D_gi_go_ := Aside0.mk (Q_D_gi_go_ (hon 2 (by kernel_rfl)) (hon 6 (by kernel_rfl)))
      have D_gi_gf := Aside0.mk (Q_D_gi_gf (hon 2 (by kernel_rfl)) (hon 8 (by kernel_rfl)))
      have D_gl_go_ := Aside0.mk (Q_D_gl_go_ (hon 4 (by kernel_rfl)) (hon 6 (by kernel_rfl)))
      have D_gl_gf := Aside0.mk (Q_D_gl_gf (hon 4 (by kernel_rfl)) (hon 8 (by kernel_rfl)))
      have D_go__gf := Aside0.mk (Q_D_go__gf (hon 6 (by kernel_rfl)) (hon 8 (by kernel_rfl)))
      have BX := Aside0.mk (Q_BX (hon 2 (by kernel_rfl)) (hon 4 (by kernel_rfl)) (hon 6 (by kernel_rfl)) (hon 8 (by kernel_rfl)) (hon 10 (by kernel_rfl)))
      have HB1 := Aside0.mk Q_HB1
      refine value_ (w1 := w') (v := .pointer (some ⟨gb, 0, none⟩)) (by rfl) rfl ?_ ?_
      · go_simp
        (try simp only [i64_w])
        try rfl
      refine hK.out _ _ ⟨gi, gl, go_, gf, gb, m2_, m4_, m6_, m8_, m9_, m10_, (.pointer (some ⟨gb, 0, none⟩)), (by rw [ha.out]; exact putSel_upk 6 hb_ rfl rfl rfl), Q_K_gi, Q_K_gl, Q_K_go_, Q_K_gf, Q_D_gi_gl, Q_D_gi_go_, Q_D_gi_gf, Q_D_gl_go_, Q_D_gl_gf, Q_D_go__gf, Q_BX, Q_HB1, Q_X2_, Q_X4_, Q_X6_, Q_X8_, Q_X9_, Q_X10_, fun _ => rfl⟩
    exact steps_nil
  · rintro b a w' hall ⟨gi, gl, go_, gf, gb, m2_, m4_, m6_, m8_, m9_, m10_, m11_, ha, Q_K_gi, Q_K_gl, Q_K_go_, Q_K_gf, Q_D_gi_gl, Q_D_gi_go_, Q_D_gi_gf, Q_D_gl_go_, Q_D_gl_gf, Q_D_go__gf, Q_BX, Q_HB1, Q_X2_, Q_X4_, Q_X6_, Q_X8_, Q_X9_, Q_X10_, Q_X11_⟩
    clear HB1
    have hb2_ := hall 2 (by kernel_rfl)
    have hb4_ := hall 4 (by kernel_rfl)
    have hb6_ := hall 6 (by kernel_rfl)
    have hb8_ := hall 8 (by kernel_rfl)
    have hb9_ := hall 9 (by kernel_rfl)
    have hb10_ := hall 10 (by kernel_rfl)
    have hb11_ := hall 11 (by kernel_rfl)
    subst ha
    obtain rfl := Q_X2_ hb2_
    obtain rfl := Q_X4_ hb4_
    obtain rfl := Q_X6_ hb6_
    obtain rfl := Q_X8_ hb8_
    obtain rfl := Q_X9_ hb9_
    obtain rfl := Q_X10_ hb10_
    obtain rfl := Q_X11_ hb11_
    simp only [putSel, hb2_, hb4_, hb6_, hb8_, hb9_, hb10_, hb11_, if_true, Act.put, List.setIfInBounds_toArray, List.set_cons_zero, List.set_cons_succ]
    have K_gi := Aside0.mk (Q_K_gi hb2_)
    clear Q_K_gi
    have K_gl := Aside0.mk (Q_K_gl hb4_)
    clear Q_K_gl
    have K_go_ := Aside0.mk (Q_K_go_ hb6_)
    clear Q_K_go_
    have K_gf := Aside0.mk (Q_K_gf hb8_)
    clear Q_K_gf
    have D_gi_gl := Aside0.mk (Q_D_gi_gl hb2_ hb4_)
    clear Q_D_gi_gl
    have D_gi_go_ := Aside0.mk (Q_D_gi_go_ hb2_ hb6_)
    clear Q_D_gi_go_
    have D_gi_gf := Aside0.mk (Q_D_gi_gf hb2_ hb8_)
    clear Q_D_gi_gf
    have D_gl_go_ := Aside0.mk (Q_D_gl_go_ hb4_ hb6_)
    clear Q_D_gl_go_
    have D_gl_gf := Aside0.mk (Q_D_gl_gf hb4_ hb8_)
    clear Q_D_gl_gf
    have D_go__gf := Aside0.mk (Q_D_go__gf hb6_ hb8_)
    clear Q_D_go__gf
    have BX := Aside0.mk (Q_BX hb2_ hb4_ hb6_ hb8_ hb10_)
    clear Q_BX
    have HB1 := Aside0.mk Q_HB1
    clear Q_HB1
    clear hall hb2_ hb4_ hb6_ hb8_ hb9_ hb10_ hb11_
    have HS : Aside0 (KnS w w' ⟨gb, gi, gl, go_, gf⟩ n (.func (.func gN) #[] lb) (.slice none 0 0) (newK n)) :=
      ⟨BX.out.1, by simpa [newK] using K_gi.out.1, by simpa [newK] using K_gl.out.1, by simpa [newK] using K_go_.out.1, by simpa [newK] using K_gf.out.1, by simp [newK], by simp [newK], by simp [newK], by simp [newK], Kd.R_nil _ _ _ _ _,
        ⟨D_gi_gl.out, D_gi_gf.out, D_gl_gf.out⟩, ⟨BX.out.2, K_gi.out.2, K_gl.out.2, K_go_.out.2, K_gf.out.2⟩, HB1.out⟩
    clear K_gi K_gl K_go_ K_gf D_gi_gl D_gi_go_ D_gi_gf D_gl_go_ D_gl_gf D_go__gf HB1 BX MI MB
    generalize hB : (⟨gb, gi, gl, go_, gf⟩ : KnB) = B at HS
    have hg : gb = B.g := by rw [← hB]
    rw [hg]
    clear hB hg
    have H1 := Aside0.mk H.out
    unfold knotK at H1
    as_aux_lemma =>
    go_wp2_with fail
    go_loopw [19] (fun v19 wr => ∃ (i : Nat) (si : KS) (vi : Value), v19 = .int .i64 i ∧ i ≤ n ∧ Aside0 (KnS w wr B n (.func (.func gN) #[] lb) vi si) ∧ Aside0 (fromK nx n (n - i) i si = some s)) (fun v19 _ => n - (intOf v19).toNat)
    case atStart => exact ⟨0, _, _, rfl, Nat.zero_le _, HS, ⟨by simpa using H1.out⟩⟩
    case round =>
      obtain ⟨i, si, vi, rfl, hi, HSi, HF⟩ := hrel
      clear HS H1 H
      obtain ⟨c0, c1, c2, c3, c4, c5, c6, c7, fg, fi, fl, fo, ff⟩ := HSi.out.cells
      by_cases hlt : i < n
      · have hf := HF.out
        obtain ⟨d, hd⟩ : ∃ d, n - i = d + 1 := ⟨n - i - 1, by omega⟩
        rw [hd] at hf
        simp only [fromK] at hf
        have hd' : n - (i + 1) = d := by omega
        have d1 := HSi.out.atIx (v := (i : Int)) (by omega) (by omega)
        simp only [Int.toNat_natCast] at d1
        clear HF hd
        by_cases hz : ga si.ix (i : Int) = 0
        · rw [if_pos hz] at hf
          obtain ⟨s1, hv, hf⟩ := Option.bind_eq_some_iff.1 hf
          rw [← hd'] at hf
          have HF := Aside0.mk hf
          have HV := Aside0.mk hv
          have t1 : (ga si.ix (i : Int) == 0) = true := by simpa using hz
          clear hf hv hz hd'
          go_wp2_with fail
          refine (visit_any gN lb nx n hn w B HN.out ((n : Int).toNat + 1) si i vi _ s1 HSi.out HV.out).mono ?_
          rintro e w1 ⟨rfl, v1, hS1⟩
          have HS1 := Aside0.mk hS1
          clear hS1 c0 c1 c2 c3 c4 c5 c6 c7 fg fi fl fo ff d1 t1 HSi
          go_wp2_with fail
          go_roundw
          case rel => exact ⟨i + 1, _, _, by go_num, by omega, HS1, HF⟩
          case measure => simp [intOf]; omega
        · rw [if_neg hz] at hf
          rw [← hd'] at hf
          have HF := Aside0.mk hf
          have t1 : (ga si.ix (i : Int) == 0) = false := by simpa using hz
          clear hf hz hd'
          go_wp2_with fail
          go_roundw
          case rel => exact ⟨i + 1, _, _, by go_num, by omega, HSi, HF⟩
          case measure => simp [intOf]; omega
      · have hf := HF.out
        rw [show n - i = 0 by omega] at hf
        simp only [fromK, Option.some.injEq] at hf
        subst hf
        go_wp2_with fail
        go_ret
        exact ⟨B, vi, rfl, HSi.out⟩
end Go.Proofs.Ytpcaonkahhbgfaa.P
