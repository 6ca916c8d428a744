-- Written by lexprint.py, a program of this session's own that runs the kit's print with turned rows. Lean checks it.
import Derived.Test.YthlmpioijjnmnaaPx0
import Derived.Test.YthlmpioijjnmnaaPx5
namespace Go.Proofs.Ythlmpioijjnmnaa.P
open Go.RowKit Go.Proofs.YthlmpioijjnmnaaW.PrintWords Go.Proofs.YthlmpioijjnmnaaW.PrintLast Go.Proofs.YthlmpioijjnmnaaW.PrintMore
attribute [local go_sem] max2_int min2_int max_two min_two
set_option linter.unusedVariables false
set_option linter.unusedSimpArgs false

/-! ### lexpriorlaw14_works: function 8 -/
def wk1.T : Bool × List (List Nat × List Nat) := (true, [([], []), ([], []), ([1], [1]), ([], []), ([3], [3]), ([], []), ([5], [5]), ([2, 4, 6], [2, 4, 6]), ([], []), ([0, 7, 8], [0, 7, 8]), ([], []), ([10, 9, 0, 1, 2, 3, 4, 5, 6, 7, 8, 9, 10], [9, 10])])
def wk1.B : List Nat := [0, 0, 2, 0, 8, 0, 32, 126, 0, 511, 0, 2047]
theorem wk1.tab : rtab .any (opsOf Try.f8 1) = wk1.T := by kernel_rfl
theorem wk1.bits : waitsOk wk1.T.2 wk1.B = true := by kernel_rfl
open Go.Proofs.Ythlmpioijjnmnaa.D in
def wkM : List D.Dn := [
  ⟨0, 8, [], fun _ b => .slice (some ⟨b, 0, none⟩) 4 4, fun _ => some (.cells (Array.replicate 4 (.slice none 0 0)) 26 (0, 0))⟩,
  ⟨1, 9, [], fun _ b => .slice (some ⟨b, 0, none⟩) 1 1, fun _ => some (.cells #[.int .i64 0] 3 (0, 0))⟩,
  ⟨2, 10, [1], fun v _ => .agg #[.int .i64 1, .int .i64 1, v 1], fun _ => none⟩,
  ⟨3, 11, [], fun _ b => .slice (some ⟨b, 0, none⟩) 1 1, fun _ => some (.cells #[.int .i64 1] 3 (0, 0))⟩,
  ⟨4, 12, [3], fun v _ => .agg #[.int .i64 1, .int .i64 2, v 3], fun _ => none⟩,
  ⟨5, 13, [], fun _ b => .slice (some ⟨b, 0, none⟩) 1 1, fun _ => some (.cells #[.int .i64 3] 3 (0, 0))⟩,
  ⟨6, 14, [5], fun v _ => .agg #[.int .i64 1, .int .i64 3, v 5], fun _ => none⟩,
  ⟨7, 15, [1, 2, 3, 4, 5, 6], fun _ b => .slice (some ⟨b, 0, none⟩) 3 3, fun v => some (.cells #[.int .i64 1, .int .i64 1, v 1, .int .i64 1, .int .i64 2, v 3, .int .i64 1, .int .i64 3, v 5] 37 (0, 0))⟩,
  ⟨8, 16, [], fun _ b => .slice (some ⟨b, 0, none⟩) 3 3, fun _ => some (.cells (Array.replicate 3 (.slice none 0 0)) 26 (0, 0))⟩,
  ⟨9, 17, [0, 7, 8], fun v _ => .agg #[.int .i64 4, v 0, v 7, v 8], fun _ => none⟩,
  ⟨10, 1, [], fun _ b => .pointer (some ⟨b, 0, none⟩), fun _ => some (.cells #[.int .i64 0, .slice none 0 0, .slice none 0 0, .slice none 0 0] 25 (0, 0))⟩]
def lexpriorlaw14_works.f (k : Nat) : Option Bool :=
  if (strict_Plus.f k 4 [[], [], [], []] [⟨1, 1, [0]⟩, ⟨1, 2, [1]⟩, ⟨1, 3, [3]⟩] [[], [], []] [0] = some ([0, 1, 2], 0) ∧ strict_Minus.f k 4 [[], [], [], []] [⟨1, 1, [0]⟩, ⟨1, 2, [1]⟩, ⟨1, 3, [3]⟩] [[], [], []] [] = some ([0, 1, 2], 0) ∧ strict_Loop.f k 4 [[], [], [], []] [⟨1, 1, [0]⟩, ⟨1, 2, [1]⟩, ⟨1, 3, [3]⟩] [[], [], []] [] 3 = some ([3, 3], 0)) ∧
    lexpriorplain_SameInts.f k [0, 1, 2] [0, 1, 2] = some true ∧ lexpriorplain_SameInts.f k [3, 3] [3, 3] = some true then some true else none
set_option maxHeartbeats 4000000 in
set_option maxRecDepth 100000 in
theorem lexpriorlaw14_works.calls (k : Nat) (r : Bool) (w : World) (h : lexpriorlaw14_works.f k = some r) :
    Calls Try.prog 8 #[] w fun e w' => e = .returned (.bool r) ∧ Below w.heap.size w w' := by
  unfold lexpriorlaw14_works.f at h
  split at h
  rotate_left
  · cases h
  rename_i hc
  cases h
  have HC := Aside0.mk hc
  clear hc
  have M4 := fun w => mk_run (P := Try.prog) 22 26 (.slice none 0 0) 24 Try.underlying22 infoL rfl 4 (by omega) (by omega) w
  have M3 := fun w => mk_run (P := Try.prog) 22 26 (.slice none 0 0) 24 Try.underlying22 infoL rfl 3 (by omega) (by omega) w
  go_enter Try.func8, Try.ntmps8
  go_wp2_with fail
  refine start_ (n := 12) (S := fun _ => True) (ds := []) #[false, false, false, false, false, false, false, false, false, false, false, false] (by kernel_rfl) rfl rfl trivial (fun _ => ?_)
  have HB := Aside0.mk (below_drew (Below.refl w.heap.size w))
  generalize w.drew = w1 at HB ⊢
  refine D.dag_ (fuel' := 1) wkM #[true, true, true, true, true, true, true, true, true, true, true, false] rfl (by decide) (by decide) rfl rfl wk1.tab (by kernel_rfl) (by kernel_rfl) ?_ ?_ (fun _ _ => trivial) ?_
  · intro k hk
    simp only [wkM, List.mem_cons, List.not_mem_nil, or_false] at hk
    rcases hk with (rfl | rfl | rfl | rfl | rfl | rfl | rfl | rfl | rfl | rfl | rfl)
    · exact ⟨_, rfl, rfl, rfl, fun a' w' v σ hb hv hx => exec_make rfl rfl rfl (M4 w')⟩
    · refine ⟨_, rfl, rfl, rfl, fun a' w' v σ hb hv hx => ?_⟩
      go_simp
      rfl
    · refine ⟨_, rfl, rfl, rfl, fun a' w' v σ hb hv hx => ?_⟩
      have e1 : v 1 = .slice (some ⟨σ 1, 0, none⟩) 1 1 := (hv wkM[1] (List.getElem_mem ..) rfl).2
      have h1 : a'.tmps[9]? = some (v 1) := (hv wkM[1] (List.getElem_mem ..) rfl).1
      rw [e1] at h1
      show _ = Result.ok (Next.value (.agg #[.int .i64 1, .int .i64 1, v 1])) w'
      rw [e1]
      clear e1 hv hx
      go_simp
    · refine ⟨_, rfl, rfl, rfl, fun a' w' v σ hb hv hx => ?_⟩
      go_simp
      rfl
    · refine ⟨_, rfl, rfl, rfl, fun a' w' v σ hb hv hx => ?_⟩
      have e3 : v 3 = .slice (some ⟨σ 3, 0, none⟩) 1 1 := (hv wkM[3] (List.getElem_mem ..) rfl).2
      have h3 : a'.tmps[11]? = some (v 3) := (hv wkM[3] (List.getElem_mem ..) rfl).1
      rw [e3] at h3
      show _ = Result.ok (Next.value (.agg #[.int .i64 1, .int .i64 2, v 3])) w'
      rw [e3]
      clear e3 hv hx
      go_simp
    · refine ⟨_, rfl, rfl, rfl, fun a' w' v σ hb hv hx => ?_⟩
      go_simp
      rfl
    · refine ⟨_, rfl, rfl, rfl, fun a' w' v σ hb hv hx => ?_⟩
      have e5 : v 5 = .slice (some ⟨σ 5, 0, none⟩) 1 1 := (hv wkM[5] (List.getElem_mem ..) rfl).2
      have h5 : a'.tmps[13]? = some (v 5) := (hv wkM[5] (List.getElem_mem ..) rfl).1
      rw [e5] at h5
      show _ = Result.ok (Next.value (.agg #[.int .i64 1, .int .i64 3, v 5])) w'
      rw [e5]
      clear e5 hv hx
      go_simp
    · refine ⟨_, rfl, rfl, rfl, fun a' w' v σ hb hv hx => ?_⟩
      have e1 : v 1 = .slice (some ⟨σ 1, 0, none⟩) 1 1 := (hv wkM[1] (List.getElem_mem ..) rfl).2
      have e3 : v 3 = .slice (some ⟨σ 3, 0, none⟩) 1 1 := (hv wkM[3] (List.getElem_mem ..) rfl).2
      have e5 : v 5 = .slice (some ⟨σ 5, 0, none⟩) 1 1 := (hv wkM[5] (List.getElem_mem ..) rfl).2
      have e2 : v 2 = .agg #[.int .i64 1, .int .i64 1, v 1] := (hv wkM[2] (List.getElem_mem ..) rfl).2
      have h2 : a'.tmps[10]? = some (v 2) := (hv wkM[2] (List.getElem_mem ..) rfl).1
      rw [e2, e1] at h2
      have e4 : v 4 = .agg #[.int .i64 1, .int .i64 2, v 3] := (hv wkM[4] (List.getElem_mem ..) rfl).2
      have h4 : a'.tmps[12]? = some (v 4) := (hv wkM[4] (List.getElem_mem ..) rfl).1
      rw [e4, e3] at h4
      have e6 : v 6 = .agg #[.int .i64 1, .int .i64 3, v 5] := (hv wkM[6] (List.getElem_mem ..) rfl).2
      have h6 : a'.tmps[14]? = some (v 6) := (hv wkM[6] (List.getElem_mem ..) rfl).1
      rw [e6, e5] at h6
      show _ = Result.ok (Next.value (.slice (some ⟨w'.heap.size, 0, none⟩) 3 3)) (w'.alloc (.cells #[.int .i64 1, .int .i64 1, v 1, .int .i64 1, .int .i64 2, v 3, .int .i64 1, .int .i64 3, v 5] 37 (0, 0)))
      rw [e1, e3, e5]
      clear e1 e2 e3 e4 e5 e6 hv hx
      go_simp
    · exact ⟨_, rfl, rfl, rfl, fun a' w' v σ hb hv hx => exec_make rfl rfl rfl (M3 w')⟩
    · refine ⟨_, rfl, rfl, rfl, fun a' w' v σ hb hv hx => ?_⟩
      have e0 : v 0 = .slice (some ⟨σ 0, 0, none⟩) 4 4 := (hv wkM[0] (List.getElem_mem ..) rfl).2
      have h0 : a'.tmps[8]? = some (v 0) := (hv wkM[0] (List.getElem_mem ..) rfl).1
      rw [e0] at h0
      have e7 : v 7 = .slice (some ⟨σ 7, 0, none⟩) 3 3 := (hv wkM[7] (List.getElem_mem ..) rfl).2
      have h7 : a'.tmps[15]? = some (v 7) := (hv wkM[7] (List.getElem_mem ..) rfl).1
      rw [e7] at h7
      have e8 : v 8 = .slice (some ⟨σ 8, 0, none⟩) 3 3 := (hv wkM[8] (List.getElem_mem ..) rfl).2
      have h8 : a'.tmps[16]? = some (v 8) := (hv wkM[8] (List.getElem_mem ..) rfl).1
      rw [e8] at h8
      show _ = Result.ok (Next.value (.agg #[.int .i64 4, v 0, v 7, v 8])) w'
      rw [e0, e7, e8]
      clear e0 e7 e8 hv hx
      go_simp
    · refine ⟨_, rfl, rfl, rfl, fun a' w' v σ hb hv hx => ?_⟩
      go_simp
      rfl
  · intro k hk v v' hvv
    simp only [wkM, List.mem_cons, List.not_mem_nil, or_false] at hk
    rcases hk with (rfl | rfl | rfl | rfl | rfl | rfl | rfl | rfl | rfl | rfl | rfl)
    · exact ⟨fun _ => rfl, rfl⟩
    · exact ⟨fun _ => rfl, rfl⟩
    · exact ⟨fun _ => by show Value.agg #[_, _, v 1] = Value.agg #[_, _, v' 1]; rw [hvv 1 rfl], rfl⟩
    · exact ⟨fun _ => rfl, rfl⟩
    · exact ⟨fun _ => by show Value.agg #[_, _, v 3] = Value.agg #[_, _, v' 3]; rw [hvv 3 rfl], rfl⟩
    · exact ⟨fun _ => rfl, rfl⟩
    · exact ⟨fun _ => by show Value.agg #[_, _, v 5] = Value.agg #[_, _, v' 5]; rw [hvv 5 rfl], rfl⟩
    · exact ⟨fun _ => rfl, by show some (Obj.cells #[_, _, v 1, _, _, v 3, _, _, v 5] _ _) = some (Obj.cells #[_, _, v' 1, _, _, v' 3, _, _, v' 5] _ _); rw [hvv 1 rfl, hvv 3 rfl, hvv 5 rfl]⟩
    · exact ⟨fun _ => rfl, rfl⟩
    · exact ⟨fun _ => by show Value.agg #[_, v 0, v 7, v 8] = Value.agg #[_, v' 0, v' 7, v' 8]; rw [hvv 0 rfl, hvv 7 rfl, hvv 8 rfl], rfl⟩
    · exact ⟨fun _ => rfl, rfl⟩
  · intro v σ w2 hall hdis hb
    have e0 : v 0 = .slice (some ⟨σ 0, 0, none⟩) 4 4 := (hall wkM[0] (List.getElem_mem ..)).1
    have e1 : v 1 = .slice (some ⟨σ 1, 0, none⟩) 1 1 := (hall wkM[1] (List.getElem_mem ..)).1
    have e2 : v 2 = .agg #[.int .i64 1, .int .i64 1, v 1] := (hall wkM[2] (List.getElem_mem ..)).1
    have e3 : v 3 = .slice (some ⟨σ 3, 0, none⟩) 1 1 := (hall wkM[3] (List.getElem_mem ..)).1
    have e4 : v 4 = .agg #[.int .i64 1, .int .i64 2, v 3] := (hall wkM[4] (List.getElem_mem ..)).1
    have e5 : v 5 = .slice (some ⟨σ 5, 0, none⟩) 1 1 := (hall wkM[5] (List.getElem_mem ..)).1
    have e6 : v 6 = .agg #[.int .i64 1, .int .i64 3, v 5] := (hall wkM[6] (List.getElem_mem ..)).1
    have e7 : v 7 = .slice (some ⟨σ 7, 0, none⟩) 3 3 := (hall wkM[7] (List.getElem_mem ..)).1
    have e8 : v 8 = .slice (some ⟨σ 8, 0, none⟩) 3 3 := (hall wkM[8] (List.getElem_mem ..)).1
    have e9 : v 9 = .agg #[.int .i64 4, v 0, v 7, v 8] := (hall wkM[9] (List.getElem_mem ..)).1
    have e10 : v 10 = .pointer (some ⟨σ 10, 0, none⟩) := (hall wkM[10] (List.getElem_mem ..)).1
    have b0 := ((hall wkM[0] (List.getElem_mem ..)).2 _ rfl).1
    have b1 := ((hall wkM[1] (List.getElem_mem ..)).2 _ rfl).1
    have b3 := ((hall wkM[3] (List.getElem_mem ..)).2 _ rfl).1
    have b5 := ((hall wkM[5] (List.getElem_mem ..)).2 _ rfl).1
    have b7 := ((hall wkM[7] (List.getElem_mem ..)).2 _ rfl).1
    have b8 := ((hall wkM[8] (List.getElem_mem ..)).2 _ rfl).1
    obtain ⟨b10, g10⟩ := (hall wkM[10] (List.getElem_mem ..)).2 _ rfl
    have n0 : σ 0 ≠ σ 10 := hdis wkM[0] wkM[10] (List.getElem_mem ..) (List.getElem_mem ..) (by decide) rfl rfl
    have n1 : σ 1 ≠ σ 10 := hdis wkM[1] wkM[10] (List.getElem_mem ..) (List.getElem_mem ..) (by decide) rfl rfl
    have n3 : σ 3 ≠ σ 10 := hdis wkM[3] wkM[10] (List.getElem_mem ..) (List.getElem_mem ..) (by decide) rfl rfl
    have n5 : σ 5 ≠ σ 10 := hdis wkM[5] wkM[10] (List.getElem_mem ..) (List.getElem_mem ..) (by decide) rfl rfl
    have n7 : σ 7 ≠ σ 10 := hdis wkM[7] wkM[10] (List.getElem_mem ..) (List.getElem_mem ..) (by decide) rfl rfl
    have n8 : σ 8 ≠ σ 10 := hdis wkM[8] wkM[10] (List.getElem_mem ..) (List.getElem_mem ..) (by decide) rfl rfl
    change w2.heap[σ 0]? = some (.cells (Array.replicate 4 (.slice none 0 0)) 26 (0, 0)) at b0
    change w2.heap[σ 1]? = some (.cells #[.int .i64 0] 3 (0, 0)) at b1
    change w2.heap[σ 3]? = some (.cells #[.int .i64 1] 3 (0, 0)) at b3
    change w2.heap[σ 5]? = some (.cells #[.int .i64 3] 3 (0, 0)) at b5
    change w2.heap[σ 7]? = some (.cells #[.int .i64 1, .int .i64 1, v 1, .int .i64 1, .int .i64 2, v 3, .int .i64 1, .int .i64 3, v 5] 37 (0, 0)) at b7
    change w2.heap[σ 8]? = some (.cells (Array.replicate 3 (.slice none 0 0)) 26 (0, 0)) at b8
    change w2.heap[σ 10]? = some (.cells #[.int .i64 0, .slice none 0 0, .slice none 0 0, .slice none 0 0] 25 (0, 0)) at b10
    rw [e1, e3, e5] at b7
    rw [e0, e7, e8] at e9
    rw [e1] at e2
    rw [e3] at e4
    rw [e5] at e6
    refine norm_ (a' := ?_) ?_ ?_
    rotate_left
    · simp only [D.putAll, wkM, Act.put, List.setIfInBounds_toArray, List.set_cons_zero, List.set_cons_succ, e0, e1, e2, e3, e4, e5, e6, e7, e8, e9, e10]
      rfl
    clear hall hdis e0 e1 e2 e3 e4 e5 e6 e7 e8 e9 e10
    have HBW := Aside0.mk (below_step HB.out hb)
    have HG := Aside0.mk (show w.heap.size ≤ σ 10 from Nat.le_trans HB.out.size g10)
    have H0 := Aside0.mk b0
    have H1 := Aside0.mk b1
    have H3 := Aside0.mk b3
    have H5 := Aside0.mk b5
    have H7 := Aside0.mk b7
    have H8 := Aside0.mk b8
    have H10 := Aside0.mk b10
    have HN := Aside0.mk (And.intro n0 (And.intro n1 (And.intro n3 (And.intro n5 (And.intro n7 n8)))))
    clear b0 b1 b3 b5 b7 b8 b10 n0 n1 n3 n5 n7 n8 hb HB g10
    generalize σ 0 = s0 at *
    generalize σ 1 = s1 at *
    generalize σ 3 = s3 at *
    generalize σ 5 = s5 at *
    generalize σ 7 = s7 at *
    generalize σ 8 = s8 at *
    generalize σ 10 = s10 at *
    have c0 : w2.cell? ⟨s10, 0, none⟩ = some (.int .i64 0) := blk_cell H10.out 0
    have c1 : w2.cell? ⟨s10, 1, none⟩ = some (.slice none 0 0) := blk_cell H10.out 1
    have c2 : w2.cell? ⟨s10, 2, none⟩ = some (.slice none 0 0) := blk_cell H10.out 2
    have c3 : w2.cell? ⟨s10, 3, none⟩ = some (.slice none 0 0) := blk_cell H10.out 3
    have f0 := blk_frozen H10.out 0
    have f1 := blk_frozen H10.out 1
    have f2 := blk_frozen H10.out 2
    have f3 := blk_frozen H10.out 3
    refine one_ (i := 11) (N := none) #[true, true, true, true, true, true, true, true, true, true, true, true] rfl rfl (by kernel_rfl) (by decide) (fun K hK => ?_)
    refine skip_ (w1 := ?_) (by rfl) rfl ?_ ?_
    rotate_left
    · go_simp
      rfl
    refine hK.out _ _ (trivial) (fun hHeld => ?_)
    clear hK K
    refine done_ (by kernel_rfl) ?_
    obtain ⟨n0, n1, n3, n5, n7, n8⟩ := HN.out
    have far : ∀ {g : Nat} {cs : Array Value} {ty : TypeId}, w2.heap[g]? = some (.cells cs ty (0, 0)) → g ≠ s10 → ((((w2.setCell ⟨s10, 0, none⟩ (.int .i64 4)).setCell ⟨s10, 1, none⟩ (.slice (some ⟨s0, 0, none⟩) 4 4)).setCell ⟨s10, 2, none⟩ (.slice (some ⟨s7, 0, none⟩) 3 3)).setCell ⟨s10, 3, none⟩ (.slice (some ⟨s8, 0, none⟩) 3 3)).heap[g]? = some (.cells cs ty (0, 0)) := fun h hn =>
      blk_far (blk_far (blk_far (blk_far h (p := ⟨s10, 0, none⟩) hn _) (p := ⟨s10, 1, none⟩) hn _) (p := ⟨s10, 2, none⟩) hn _) (p := ⟨s10, 3, none⟩) hn _
    have a0 := Aside0.mk (far H0.out n0)
    have a1 := Aside0.mk (far H1.out n1)
    have a3 := Aside0.mk (far H3.out n3)
    have a5 := Aside0.mk (far H5.out n5)
    have a7 := Aside0.mk (far H7.out n7)
    have a8 := Aside0.mk (far H8.out n8)
    have a10 : Aside0 (((((w2.setCell ⟨s10, 0, none⟩ (.int .i64 4)).setCell ⟨s10, 1, none⟩ (.slice (some ⟨s0, 0, none⟩) 4 4)).setCell ⟨s10, 2, none⟩ (.slice (some ⟨s7, 0, none⟩) 3 3)).setCell ⟨s10, 3, none⟩ (.slice (some ⟨s8, 0, none⟩) 3 3)).heap[s10]? = some (.cells #[.int .i64 4, .slice (some ⟨s0, 0, none⟩) 4 4, .slice (some ⟨s7, 0, none⟩) 3 3, .slice (some ⟨s8, 0, none⟩) 3 3] 25 (0, 0))) :=
      ⟨blk_set (blk_set (blk_set (blk_set H10.out 0 (.int .i64 4)) 1 (.slice (some ⟨s0, 0, none⟩) 4 4)) 2 (.slice (some ⟨s7, 0, none⟩) 3 3)) 3 (.slice (some ⟨s8, 0, none⟩) 3 3)⟩
    have HB3 := Aside0.mk (below_set (j := 3) (v := .slice (some ⟨s8, 0, none⟩) 3 3) (below_set (j := 2) (v := .slice (some ⟨s7, 0, none⟩) 3 3) (below_set (j := 1) (v := .slice (some ⟨s0, 0, none⟩) 4 4) (below_set (j := 0) (v := .int .i64 4) HBW.out HG.out) HG.out) HG.out) HG.out)
    clear far n0 n1 n3 n5 n7 n8 HN c0 c1 c2 c3 f0 f1 f2 f3 H0 H1 H3 H5 H7 H8 H10 HBW HG hHeld M3 M4
    generalize (((w2.setCell ⟨s10, 0, none⟩ (.int .i64 4)).setCell ⟨s10, 1, none⟩ (.slice (some ⟨s0, 0, none⟩) 4 4)).setCell ⟨s10, 2, none⟩ (.slice (some ⟨s7, 0, none⟩) 3 3)).setCell ⟨s10, 3, none⟩ (.slice (some ⟨s8, 0, none⟩) 3 3) = w3 at a0 a1 a3 a5 a7 a8 a10 HB3 ⊢
    as_aux_lemma =>
    have sl : ∀ W : World, (Kd.slice 3 (Kd.int .i64)).K W [] [.slice none 0 0] := fun W => ⟨none, 0, rfl, Nat.le_refl _, Kd.C_nil _ _⟩
    have KF := Aside0.mk (D.C_block (d := Kd.slice 3 (Kd.int .i64)) (xs := [[], [], [], []]) a0.out (D.reps_cons (sl _) rfl (D.reps_cons (sl _) rfl (D.reps_cons (sl _) rfl (D.reps_cons (sl _) rfl (Reps.none _ _))))) (by simp))
    have KB := Aside0.mk (D.C_block (d := Kd.slice 3 (Kd.int .i64)) (xs := [[], [], []]) a8.out (D.reps_cons (sl _) rfl (D.reps_cons (sl _) rfl (D.reps_cons (sl _) rfl (Reps.none _ _)))) (by simp))
    have KR := Aside0.mk (D.C_block (d := k37) (xs := [⟨1, 1, [0]⟩, ⟨1, 2, [1]⟩, ⟨1, 3, [3]⟩]) a7.out (D.reps_cons (k37_mk _ ⟨1, 1, [0]⟩ (Nat.le_refl 1) (Kd.C_blk (n := 1) a1.out rfl rfl (by decide))) rfl (D.reps_cons (k37_mk _ ⟨1, 2, [1]⟩ (Nat.le_refl 1) (Kd.C_blk (n := 1) a3.out rfl rfl (by decide))) rfl (D.reps_cons (k37_mk _ ⟨1, 3, [3]⟩ (Nat.le_refl 1) (Kd.C_blk (n := 1) a5.out rfl rfl (by decide))) rfl (Reps.none _ _)))) (by simp))
    clear sl a0 a1 a3 a5 a7 a8
    have c0 : w3.cell? ⟨s10, 0, none⟩ = some (.int .i64 4) := blk_cell a10.out 0
    have c1 : w3.cell? ⟨s10, 1, none⟩ = some (.slice (some ⟨s0, 0, none⟩) 4 4) := blk_cell a10.out 1
    have c2 : w3.cell? ⟨s10, 2, none⟩ = some (.slice (some ⟨s7, 0, none⟩) 3 3) := blk_cell a10.out 2
    have c3 : w3.cell? ⟨s10, 3, none⟩ = some (.slice (some ⟨s8, 0, none⟩) 3 3) := blk_cell a10.out 3
    go_wp2_with fail
    clear c0 c1 c2 c3
    have hb4 := below_alloc (Below.refl w3.heap.size w3) (.cells #[.int .i64 0] 3 (0, 0))
    refine (strict_Plus.calls k 4 (some ⟨s0, 0, none⟩) 4 [[], [], [], []] (some ⟨s7, 0, none⟩) 3 [⟨1, 1, [0]⟩, ⟨1, 2, [1]⟩, ⟨1, 3, [3]⟩] (some ⟨s8, 0, none⟩) 3 [[], [], []] (some ⟨w3.heap.size, 0, none⟩) 1 [0] [0, 1, 2] 0 _ (Kd.C_below KF.out hb4) (Nat.le_refl 4) (Kd.C_below KR.out hb4) (Nat.le_refl 3) (Kd.C_below KB.out hb4) (Nat.le_refl 3) (Kd.C_blk (n := 1) (blk_new w3 (.cells #[.int .i64 0] 3 (0, 0))) rfl rfl (by decide)) (Nat.le_refl 1) HC.out.1.1).mono ?_
    rintro e w4 ⟨va, rfl, hR, hB⟩
    have hq := below_step hb4 hB
    obtain ⟨Aa, ca, rfl⟩ := Kd.R_slice hR
    obtain ⟨_, la, Ca⟩ := Kd.R_reads' hR
    have RA := Aside0.mk Ca
    have HB4 := Aside0.mk (below_step HB3.out hq)
    have a10 := Aside0.mk (blk_below a10.out hq)
    have KF := Aside0.mk (Kd.C_below KF.out hq)
    have KB := Aside0.mk (Kd.C_below KB.out hq)
    have KR := Aside0.mk (Kd.C_below KR.out hq)
    clear hq hR hB hb4 Ca HB3
    have c0 : w4.cell? ⟨s10, 0, none⟩ = some (.int .i64 4) := blk_cell a10.out 0
    have c1 : w4.cell? ⟨s10, 1, none⟩ = some (.slice (some ⟨s0, 0, none⟩) 4 4) := blk_cell a10.out 1
    have c2 : w4.cell? ⟨s10, 2, none⟩ = some (.slice (some ⟨s7, 0, none⟩) 3 3) := blk_cell a10.out 2
    have c3 : w4.cell? ⟨s10, 3, none⟩ = some (.slice (some ⟨s8, 0, none⟩) 3 3) := blk_cell a10.out 3
    go_wp2_with fail
    clear c0 c1 c2 c3
    refine (strict_Minus.calls k 4 (some ⟨s0, 0, none⟩) 4 [[], [], [], []] (some ⟨s7, 0, none⟩) 3 [⟨1, 1, [0]⟩, ⟨1, 2, [1]⟩, ⟨1, 3, [3]⟩] (some ⟨s8, 0, none⟩) 3 [[], [], []] none 0 [] [0, 1, 2] 0 _ KF.out (Nat.le_refl 4) KR.out (Nat.le_refl 3) KB.out (Nat.le_refl 3) (Kd.C_nil _ _) (Nat.le_refl 0) HC.out.1.2.1).mono ?_
    rintro e w5 ⟨vb, rfl, hR, hq⟩
    obtain ⟨Ab, cb, rfl⟩ := Kd.R_slice hR
    obtain ⟨_, lb, Cb⟩ := Kd.R_reads' hR
    have RB := Aside0.mk Cb
    have RA := Aside0.mk (Kd.C_below RA.out hq)
    have HB5 := Aside0.mk (below_step HB4.out hq)
    have a10 := Aside0.mk (blk_below a10.out hq)
    have KF := Aside0.mk (Kd.C_below KF.out hq)
    have KB := Aside0.mk (Kd.C_below KB.out hq)
    have KR := Aside0.mk (Kd.C_below KR.out hq)
    clear hq hR Cb HB4
    have c0 : w5.cell? ⟨s10, 0, none⟩ = some (.int .i64 4) := blk_cell a10.out 0
    have c1 : w5.cell? ⟨s10, 1, none⟩ = some (.slice (some ⟨s0, 0, none⟩) 4 4) := blk_cell a10.out 1
    have c2 : w5.cell? ⟨s10, 2, none⟩ = some (.slice (some ⟨s7, 0, none⟩) 3 3) := blk_cell a10.out 2
    have c3 : w5.cell? ⟨s10, 3, none⟩ = some (.slice (some ⟨s8, 0, none⟩) 3 3) := blk_cell a10.out 3
    go_wp2_with fail
    clear c0 c1 c2 c3
    refine (strict_Loop.calls k 4 (some ⟨s0, 0, none⟩) 4 [[], [], [], []] (some ⟨s7, 0, none⟩) 3 [⟨1, 1, [0]⟩, ⟨1, 2, [1]⟩, ⟨1, 3, [3]⟩] (some ⟨s8, 0, none⟩) 3 [[], [], []] none 0 [] 3 [3, 3] 0 _ KF.out (Nat.le_refl 4) KR.out (Nat.le_refl 3) KB.out (Nat.le_refl 3) (Kd.C_nil _ _) (Nat.le_refl 0) HC.out.1.2.2).mono ?_
    rintro e w6 ⟨vc, rfl, hR, hq⟩
    obtain ⟨Ac, cc, rfl⟩ := Kd.R_slice hR
    obtain ⟨_, lc, Cc⟩ := Kd.R_reads' hR
    have RC := Aside0.mk Cc
    have RB := Aside0.mk (Kd.C_below RB.out hq)
    have RA := Aside0.mk (Kd.C_below RA.out hq)
    have HB6 := Aside0.mk (below_step HB5.out hq)
    clear hq hR Cc HB5 KF KB KR a10
    go_wp2_with fail
    refine (lexpriorlaw14_num.calls 0 0 _ rfl).mono ?_
    rintro e w7 ⟨rfl, hd⟩
    have hq := (show Below w6.heap.size w6 w7 by obtain ⟨mq, rfl⟩ := hd; exact pw_below_drewN (Below.refl _ _) mq) 
    have RA := Aside0.mk (Kd.C_below RA.out hq)
    have RB := Aside0.mk (Kd.C_below RB.out hq)
    have RC := Aside0.mk (Kd.C_below RC.out hq)
    have HB7 := Aside0.mk (below_step HB6.out hq)
    clear hd hq HB6
    go_wp2_with fail
    refine (lexpriorlaw14_num.calls 0 0 _ rfl).mono ?_
    rintro e w8 ⟨rfl, hd⟩
    have hq := (show Below w7.heap.size w7 w8 by obtain ⟨mq, rfl⟩ := hd; exact pw_below_drewN (Below.refl _ _) mq) 
    have RA := Aside0.mk (Kd.C_below RA.out hq)
    have RB := Aside0.mk (Kd.C_below RB.out hq)
    have RC := Aside0.mk (Kd.C_below RC.out hq)
    have HB8 := Aside0.mk (below_step HB7.out hq)
    clear hd hq HB7
    go_wp2_with fail
    refine (lexpriorlaw14_num.calls 0 0 _ rfl).mono ?_
    rintro e w9 ⟨rfl, hd⟩
    have hq := (show Below w8.heap.size w8 w9 by obtain ⟨mq, rfl⟩ := hd; exact pw_below_drewN (Below.refl _ _) mq) 
    have RA := Aside0.mk (Kd.C_below RA.out hq)
    have RB := Aside0.mk (Kd.C_below RB.out hq)
    have RC := Aside0.mk (Kd.C_below RC.out hq)
    have HB9 := Aside0.mk (below_step HB8.out hq)
    clear hd hq HB8
    go_wp2_with fail
    have hba := below_alloc (Below.refl w9.heap.size w9) (.cells #[.int .i64 0, .int .i64 1, .int .i64 2] 3 (0, 0))
    refine (lexpriorplain_SameInts.calls k Aa ca [0, 1, 2] (some ⟨w9.heap.size, 0, none⟩) 3 [0, 1, 2] true _ (Kd.C_below RA.out hba) la (Kd.C_blk (n := 3) (blk_new w9 (.cells #[.int .i64 0, .int .i64 1, .int .i64 2] 3 (0, 0))) rfl rfl (by decide)) (Nat.le_refl 3) HC.out.2.1).mono ?_
    rintro e w10 ⟨rfl, hd⟩
    have hq := (show Below w9.heap.size w9 w10 by obtain ⟨mq, rfl⟩ := hd; exact pw_below_drewN hba mq) 
    have RA := Aside0.mk (Kd.C_below RA.out hq)
    have RB := Aside0.mk (Kd.C_below RB.out hq)
    have RC := Aside0.mk (Kd.C_below RC.out hq)
    have HB10 := Aside0.mk (below_step HB9.out hq)
    clear hd hq hba HB9
    go_wp2_with fail
    have hba := below_alloc (Below.refl w10.heap.size w10) (.cells #[.int .i64 0, .int .i64 1, .int .i64 2] 3 (0, 0))
    refine (lexpriorplain_SameInts.calls k Ab cb [0, 1, 2] (some ⟨w10.heap.size, 0, none⟩) 3 [0, 1, 2] true _ (Kd.C_below RB.out hba) lb (Kd.C_blk (n := 3) (blk_new w10 (.cells #[.int .i64 0, .int .i64 1, .int .i64 2] 3 (0, 0))) rfl rfl (by decide)) (Nat.le_refl 3) HC.out.2.1).mono ?_
    rintro e w11 ⟨rfl, hd⟩
    have hq := (show Below w10.heap.size w10 w11 by obtain ⟨mq, rfl⟩ := hd; exact pw_below_drewN hba mq) 
    have RA := Aside0.mk (Kd.C_below RA.out hq)
    have RB := Aside0.mk (Kd.C_below RB.out hq)
    have RC := Aside0.mk (Kd.C_below RC.out hq)
    have HB11 := Aside0.mk (below_step HB10.out hq)
    clear hd hq hba HB10
    go_wp2_with fail
    have hba := below_alloc (Below.refl w11.heap.size w11) (.cells #[.int .i64 3, .int .i64 3] 3 (0, 0))
    refine (lexpriorplain_SameInts.calls k Ac cc [3, 3] (some ⟨w11.heap.size, 0, none⟩) 2 [3, 3] true _ (Kd.C_below RC.out hba) lc (Kd.C_blk (n := 2) (blk_new w11 (.cells #[.int .i64 3, .int .i64 3] 3 (0, 0))) rfl rfl (by decide)) (Nat.le_refl 2) HC.out.2.2).mono ?_
    rintro e w12 ⟨rfl, hd⟩
    have hq := (show Below w11.heap.size w11 w12 by obtain ⟨mq, rfl⟩ := hd; exact pw_below_drewN hba mq) 
    have RA := Aside0.mk (Kd.C_below RA.out hq)
    have RB := Aside0.mk (Kd.C_below RB.out hq)
    have RC := Aside0.mk (Kd.C_below RC.out hq)
    have HB12 := Aside0.mk (below_step HB11.out hq)
    clear hd hq hba HB11
    go_wp2_with fail
    go_ret
    exact ⟨rfl, HB12.out⟩


/-! ### lexpriorlaw14_marked: function 11 -/
def mkdV (n : Int) (l : List Int) : Nat → Nat → List Bool → List Bool × Bool
  | 0, _, s => (s, true)
  | f + 1, i, s => if rd l i < 0 ∨ n ≤ rd l i ∨ (0 < i ∧ rd l i ≤ rd l (i - 1)) then ([], false) else mkdV n l f (i + 1) (s.set (rd l i).toNat true)
def lexpriorlaw14_marked.f (a0 : Int) (l1 : List Int) : Option (List Bool × Bool) := if 0 ≤ a0 ∧ a0 ≤ 1000000 then some (mkdV a0 l1 l1.length 0 (List.replicate a0.toNat false)) else none
set_option maxHeartbeats 4000000 in
set_option maxRecDepth 100000 in
theorem lexpriorlaw14_marked.calls (a0 : Int) (A1 : Option Addr) (c1 : Nat) (l1 : List Int) (r1 : List Bool) (r2 : Bool) (w : World) (hr1 : Kd.C (Kd.int .i64) w A1 l1.length l1) (hc1 : l1.length ≤ c1) (h : lexpriorlaw14_marked.f a0 l1 = some (r1, r2)) :
    Calls Try.prog 11 #[.int .i64 a0, .slice A1 l1.length c1] w fun e w' => ∃ v0_ : Value, e = .returned (.tuple #[v0_, .bool r2]) ∧ Kd.R Kd.bool 4 w' w.heap.size (fun _ => True) v0_ r1 ∧ Below w.heap.size w w' := by
  unfold lexpriorlaw14_marked.f at h
  by_cases hn : 0 ≤ a0 ∧ a0 ≤ 1000000
  rotate_left
  · rw [if_neg hn] at h; cases h
  rw [if_pos hn] at h
  obtain ⟨n, rfl⟩ := Int.eq_ofNat_of_zero_le hn.1
  have hn1 : n ≤ 1000000 := by omega
  have HV := Aside0.mk (Option.some.inj h)
  have HR := Aside0.mk hr1
  have hmx := Kd.C_max hr1
  have MB := fun w => mk_run (P := Try.prog) 31 4 (.bool false) 1 Try.underlying31 infoB rfl n (by omega) (by omega) w
  clear h hr1 hn hc1
  obtain ⟨gn, hgn⟩ : ∃ gn, gn = w.heap.size := ⟨_, rfl⟩
  have E := Aside0.mk (show (w.alloc (.cells (Array.replicate n (.bool false)) 4)).heap[gn]? = some (.cells (bls (List.replicate n false)) 4 (0, 0)) by
    have := blk_new w (.cells (Array.replicate n (.bool false)) 4 (0, 0))
    rw [hgn]
    simpa [bls, bools] using this)
  have HB := Aside0.mk (show Below w.heap.size w (w.alloc (.cells (Array.replicate n (.bool false)) 4)) from below_alloc (Below.refl w.heap.size w) (.cells (Array.replicate n (.bool false)) 4 (0, 0)))
  have HG := Aside0.mk (show w.heap.size ≤ gn by omega)
  have HE := Aside0.mk hgn
  clear hgn
  simp only [Int.toNat_natCast] at HV
  go_enter Try.func11, Try.ntmps11
  go_wp2_with fail
  have hgn := HE.out
  rw [← hgn]
  clear hgn HE MB
  go_loopw [7] (fun v7 wr => ∃ (j : Nat) (s : List Bool), v7 = .int .i64 j ∧ j ≤ l1.length ∧ Aside0 (s.length = n) ∧ Aside0 (mkdV n l1 (l1.length - j) j s = (r1, r2)) ∧ Aside0 (wr.heap[gn]? = some (.cells (bls s) 4 (0, 0))) ∧ Aside0 (Below w.heap.size w wr)) (fun v7 _ => l1.length - (intOf v7).toNat)
  case atStart => exact ⟨0, _, rfl, Nat.zero_le _, ⟨by simp⟩, HV, E, HB⟩
  case round =>
    clear HV E HB
    obtain ⟨j, s, rfl, hj, HL, HV, E, HB⟩ := hrel
    by_cases hlt : j < l1.length
    · obtain ⟨ad, rfl, hcell⟩ := Kd.at_int (Kd.C_below HR.out HB.out) (j : Int) (by omega) (by omega)
      simp only [Int.toNat_natCast] at hcell
      have hv := HV.out
      rw [show l1.length - j = (l1.length - (j + 1)) + 1 by omega] at hv
      simp only [mkdV] at hv
      obtain ⟨x, hx⟩ : ∃ x, x = rd l1 (j : Int) := ⟨_, rfl⟩
      rw [← hx] at hv hcell
      have HX := Aside0.mk hx
      have hj0 : (0 : Int) ≤ (j : Int) := by omega
      have hj1 : (j : Int) < (l1.length : Int) := by omega
      clear hx HV
      by_cases h0 : x < 0
      · rw [if_pos (.inl h0)] at hv
        cases hv
        have t0 : decide (x < 0) = true := decide_eq_true h0
        clear h0
        go_wp2_with fail
        go_quiet (fail)
        go_wp2_with fail
        go_ret2
        exact ⟨_, rfl, Kd.R_nil _ _ _ _ _, pw_below_drewN HB.out _⟩
      have t0 : decide (x < 0) = false := decide_eq_false h0
      by_cases h1 : (n : Int) ≤ x
      · rw [if_pos (.inr (.inl h1))] at hv
        cases hv
        have t1 : decide (x ≥ (n : Int)) = true := decide_eq_true h1
        clear h0 h1
        go_wp2_with fail
        go_quiet (fail)
        go_wp2_with fail
        go_ret2
        exact ⟨_, rfl, Kd.R_nil _ _ _ _ _, pw_below_drewN HB.out _⟩
      have t1 : decide (x ≥ (n : Int)) = false := decide_eq_false h1
      have fse := blk_frozen E.out x.toNat
      have dse : wr.cell? ⟨gn, x.toNat, none⟩ = some (.bool (K.gb s x)) := (blk_cell E.out _).trans (bls_at (by omega) (by rw [HL.out]; omega))
      have hx0 : 0 ≤ x := by omega
      have hx1 : x < (n : Int) := by omega
      have E2 : ∀ q, Aside0 (((wr.drewN q).setCell ⟨gn, x.toNat, none⟩ (.bool true)).heap[gn]? = some (.cells (bls (s.set x.toNat true)) 4 (0, 0))) := fun q => ⟨by
        have := blk_set (blk_drewN E.out q) x.toNat (.bool true)
        rwa [bls_set] at this⟩
      have B2 : ∀ q, Aside0 (Below w.heap.size w ((wr.drewN q).setCell ⟨gn, x.toNat, none⟩ (.bool true))) := fun q => ⟨below_set (pw_below_drewN HB.out q) HG.out⟩
      have HE2 := Aside0.mk E2
      have HB2 := Aside0.mk B2
      have HL2 := Aside0.mk (show (s.set x.toNat true).length = n by rw [List.length_set]; exact HL.out)
      clear E2 B2
      by_cases h2 : 0 < j
      · obtain ⟨y, hy⟩ : ∃ y, y = rd l1 ((j : Int) - 1) := ⟨_, rfl⟩
        obtain ⟨ad', e', hcell2⟩ := Kd.at_int (Kd.C_below HR.out HB.out) ((j : Int) - 1) (by omega) (by omega)
        cases e'
        rw [← hy] at hv hcell2
        rw [show ((j : Int) - 1).toNat = j - 1 by omega] at hcell2
        have hk0 : (0 : Int) ≤ (j : Int) - 1 := by omega
        have hk1 : (j : Int) - 1 < (l1.length : Int) := by omega
        have hk2 : (1 : Int) ≤ (j : Int) := by omega
        have hk3 : (j : Int) < (l1.length : Int) + 1 := by omega
        have hk4 : 1 ≤ j := by omega
        have hk5 : j < l1.length + 1 := by omega
        have t2 : decide (0 < j) = true := decide_eq_true h2
        have t2' : decide ((0 : Int) < (j : Int)) = true := decide_eq_true (by omega)
        clear hy
        by_cases h3 : x ≤ y
        · rw [if_pos (.inr (.inr ⟨h2, h3⟩))] at hv
          cases hv
          have t3 : decide (x ≤ y) = true := decide_eq_true h3
          clear h0 h1 h2 h3
          have hs : IntKind.i64.wrap ((j : Int) - 1) = (j : Int) - 1 := IntWalk.i64_in _ (by omega)
          go_wp2_with fail
          go_quiet (fail)
          clear hs
          go_wp2_with fail
          go_ret2
          exact ⟨_, rfl, Kd.R_nil _ _ _ _ _, pw_below_drewN HB.out _⟩
        · rw [if_neg (by rintro (h | h | h); exact h0 h; exact h1 h; exact h3 h.2)] at hv
          have HV := Aside0.mk hv
          have t3 : decide (x ≤ y) = false := decide_eq_false h3
          clear h0 h1 h2 h3 hv
          have hs : IntKind.i64.wrap ((j : Int) - 1) = (j : Int) - 1 := IntWalk.i64_in _ (by omega)
          go_wp2_with fail
          go_quiet (fail)
          clear hs
          go_wp2_with fail
          go_roundw
          case rel => exact ⟨j + 1, _, by go_num, by omega, HL2, HV, HE2.out _, HB2.out _⟩
          case measure => simp [intOf]; omega
      · rw [if_neg (by rintro (h | h | h); exact h0 h; exact h1 h; exact h2 h.1)] at hv
        have HV := Aside0.mk hv
        have t2 : decide (0 < j) = false := decide_eq_false h2
        have t2' : decide ((0 : Int) < (j : Int)) = false := decide_eq_false (by omega)
        clear h0 h1 h2 hv
        go_wp2_with fail
        go_quiet (fail)
        go_wp2_with fail
        go_roundw
        case rel => exact ⟨j + 1, _, by go_num, by omega, HL2, HV, HE2.out _, HB2.out _⟩
        case measure => simp [intOf]; omega
    · have hv := HV.out
      rw [show l1.length - j = 0 by omega] at hv
      simp only [mkdV, Prod.mk.injEq] at hv
      obtain ⟨rfl, rfl⟩ := hv
      have HQ := Aside0.mk (P.R_blkB (base := w.heap.size) (ok := fun _ => True) E.out HG.out (by rw [HL.out]; omega) trivial)
      have hl := HL.out
      rw [hl] at HQ
      clear hl E
      go_wp2_with fail
      go_ret2
      exact ⟨_, rfl, HQ.out, HB.out⟩


/-! ### strict_Least: function 16 -/
def strict_Least.f (k : Nat) (a0_0 : Int) (l0_1 : List (List Int)) (l0_2 : List S37) (l0_3 : List (List Int)) (l1 : List Int) (a2 : Int) : Option (List Int × Int) := (strict_given.f k a0_0 l0_1 l0_2 l0_3 l1).bind fun g => leastT g a0_0 (l0_2.map fun x => (x.f0, x.f1, x.f2)) l1 a2
theorem strict_Least.calls (k : Nat) (a0_0 : Int) (A0_1 : Option Addr) (c0_1 : Nat) (l0_1 : List (List Int)) (A0_2 : Option Addr) (c0_2 : Nat) (l0_2 : List (S37)) (A0_3 : Option Addr) (c0_3 : Nat) (l0_3 : List (List Int)) (A1 : Option Addr) (c1 : Nat) (l1 : List Int) (a2 : Int) (r1 : List Int) (r2 : Int) (w : World) (hr0_1 : Kd.C (Kd.slice 3 (Kd.int .i64)) w A0_1 l0_1.length l0_1) (hc0_1 : l0_1.length ≤ c0_1) (hr0_2 : Kd.C k37 w A0_2 l0_2.length l0_2) (hc0_2 : l0_2.length ≤ c0_2) (hr0_3 : Kd.C (Kd.slice 3 (Kd.int .i64)) w A0_3 l0_3.length l0_3) (hc0_3 : l0_3.length ≤ c0_3) (hr1 : Kd.C (Kd.int .i64) w A1 l1.length l1) (hc1 : l1.length ≤ c1) (h : strict_Least.f k a0_0 l0_1 l0_2 l0_3 l1 a2 = some (r1, r2)) :
    Calls Try.prog 16 #[.agg #[.int .i64 a0_0, .slice A0_1 l0_1.length c0_1, .slice A0_2 l0_2.length c0_2, .slice A0_3 l0_3.length c0_3], .slice A1 l1.length c1, .int .i64 a2] w fun e w' => ∃ v0_ : Value, e = .returned (.tuple #[v0_, .int .i64 r2]) ∧ Kd.R (Kd.int .i64) 3 w' w.heap.size (fun _ => True) v0_ r1 ∧ Below w.heap.size w w' := by
  obtain ⟨g, hg, h⟩ := Option.bind_eq_some_iff.1 h
  exact leastT_any (f := fun x : S37 => (x.f0, x.f1, x.f2)) hr0_2 hr1 (fun W hW => strict_given.calls k a0_0 A0_1 c0_1 l0_1 A0_2 c0_2 l0_2 A0_3 c0_3 l0_3 A1 c1 l1 g W (Kd.C_below hr0_1 hW) hc0_1 (Kd.C_below hr0_2 hW) hc0_2 (Kd.C_below hr0_3 hW) hc0_3 (Kd.C_below hr1 hW) hc1 hg) h


end Go.Proofs.Ythlmpioijjnmnaa.P
