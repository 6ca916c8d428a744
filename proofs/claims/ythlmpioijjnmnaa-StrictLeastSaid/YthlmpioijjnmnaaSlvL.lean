/- Strict proof: heights; one literal; why it has neither. -/
import Derived.Test.YthlmpioijjnmnaaSlvC
namespace Go.Proofs.Ythlmpioijjnmnaa.P
open Go.RowKit Go.Proofs.YthlmpioijjnmnaaW.PrintWords Go.Proofs.YthlmpioijjnmnaaW.PrintLast Go.Proofs.YthlmpioijjnmnaaW.PrintMore Go.Proofs.Ythlmpioijjnmnaa.K
set_option linter.unusedVariables false
set_option linter.unusedSimpArgs false

theorem R_blkI {W : World} {g base : Nat} {l : List Int} (h : W.heap[g]? = some (.cells (ints l) 3 (0, 0))) (hb : base ≤ g) (hm : l.length ≤ 1000000) {ok : Nat → Prop} (hok : ok g) : Kd.R (Kd.int .i64) 3 W base ok (.slice (some ⟨g, 0, none⟩) l.length l.length) l := by
  refine ⟨fun k hk => ?_, l.map (Value.int .i64), ⟨by simp [Kd.int, Kd.scalar], .inr ⟨g, l.length, ints l, rfl, hb, h, Nat.le_refl _, by unfold maxLen; omega, by simp [ints, nums, Kd.int, Kd.scalar], by rw [show (ints l).toList = l.map (Value.int .i64) from by simp [ints, nums]]; exact List.take_of_length_le (by simp [Kd.int, Kd.scalar])⟩⟩, ?_⟩
  · have : g = k := by simpa [Value.ownBlock] using hk
    exact this ▸ hok
  · exact Kd.reps_scalar l
section
variable (w : World) (n m : Nat) (v1 v3 : Value) (A2 : Option Addr) (c2 : Nat) (Af : Option Addr) (cf : Nat) (fs : List Int) (kd hd : Int → Int) (bd : Int → List Int) (g : Int)
set_option maxHeartbeats 1000000 in
theorem heights_bad (v0 v2 : Value) (hg : g ≠ 0) (hG : ∀ W, Below w.heap.size w W → Calls Try.prog 27 #[.agg #[v0, v1, v2, v3], .slice Af fs.length cf] W fun e w' => e = .returned (.int .i64 g) ∧ Below W.heap.size W w') :
    Calls Try.prog 15 #[.agg #[v0, v1, v2, v3], .slice Af fs.length cf] w (ChosenPost w [] g) := by
  have HG := Aside0.mk (hG _ (below_alloc (Below.refl _ _) (.cells #[v0, v1, v2, v3] 25 (0, 0))))
  have HB := Aside0.mk (below_alloc (Below.refl w.heap.size w) (.cells #[v0, v1, v2, v3] 25 (0, 0)))
  have t1 : (g != 0) = true := by simpa using hg
  clear hG hg
  go_enter Try.func15, Try.ntmps15
  go_wp2_with fail
  refine HG.out.mono ?_
  rintro e w1 ⟨rfl, hb⟩
  have HB1 := Aside0.mk (below_step HB.out hb)
  clear hb HG HB
  go_wp2_with fail
  go_ret2
  exact ⟨_, rfl, Kd.R_nil _ _ _ _ _, HB1.out⟩
set_option maxHeartbeats 1000000 in
theorem heights_good (hI : ThyIn w n m A2 kd hd bd Af fs) (hG : ∀ W, Below w.heap.size w W → Calls Try.prog 27 #[.agg #[.int .i64 n, v1, .slice A2 m c2, v3], .slice Af fs.length cf] W fun e w' => e = .returned (.int .i64 0) ∧ Below W.heap.size W w')
    (s : SV) (hs : solveF n m kd hd bd fs = some s) :
    Calls Try.prog 15 #[.agg #[.int .i64 n, v1, .slice A2 m c2, v3], .slice Af fs.length cf] w (ChosenPost w s.hgt 0) := by
  have hn : n ≤ 4096 := by
    unfold solveF at hs
    by_cases hn : n ≤ 4096 ∧ m ≤ 4096
    · exact hn.1
    · rw [if_neg hn] at hs; cases hs
  have hb0 := below_alloc (Below.refl w.heap.size w) (.cells #[.int .i64 n, v1, .slice A2 m c2, v3] 25 (0, 0))
  have HG := Aside0.mk (hG _ hb0)
  have HI := Aside0.mk (hI.below hb0)
  have HS := Aside0.mk hs
  have HB := Aside0.mk hb0
  obtain ⟨g0, hg0⟩ : ∃ g0, g0 = w.heap.size := ⟨_, rfl⟩
  have HW := Aside0.mk (show (w.alloc (.cells #[.int .i64 n, v1, .slice A2 m c2, v3] 25 (0, 0))).heap[g0]? = some (.cells #[.int .i64 n, v1, .slice A2 m c2, v3] 25 (0, 0)) by rw [hg0]; exact blk_new w _)
  have HE := Aside0.mk hg0
  clear hG hI hs hb0 hg0
  go_enter Try.func15, Try.ntmps15
  go_wp2_with fail
  refine HG.out.mono ?_
  rintro e w1 ⟨rfl, hb⟩
  have HB1 := Aside0.mk (below_step HB.out hb)
  have HI1 := Aside0.mk (HI.out.below hb)
  have HW1 := Aside0.mk (blk_below HW.out hb)
  have hg0 := HE.out
  rw [← hg0]
  clear hb HG HB HI HW hg0 HE
  have c0 : w1.cell? ⟨g0, 0, none⟩ = some (.int .i64 n) := blk_cell HW1.out 0
  have c1 : w1.cell? ⟨g0, 1, none⟩ = some v1 := blk_cell HW1.out 1
  have c2' : w1.cell? ⟨g0, 2, none⟩ = some (.slice A2 m c2) := blk_cell HW1.out 2
  have c3 : w1.cell? ⟨g0, 3, none⟩ = some v3 := blk_cell HW1.out 3
  go_wp2_with fail
  refine (solve_calls HI1.out HS.out).mono ?_
  rintro e w2 ⟨w0, ℓ, B, vt, vi, vr, rfl, hS, hb1, hb2⟩
  obtain ⟨_, _, _, _, _, _, _, _, _, _, _, _, c12, _⟩ := hS.cells
  have HS2 := Aside0.mk (Slvd.mk hS)
  have HB2 := Aside0.mk (below_step HB1.out hb2)
  have HL := Aside0.mk hS.L.he
  have HQ := Aside0.mk (And.intro hb1.size (And.intro HB1.out.size (hS.M.fix 9 _ _ rfl rfl)))
  clear hS hb1 hb2 HB1 HI1 HW1 c0 c1 c2' c3 HS
  go_wp2_with fail
  go_ret2
  obtain ⟨q1, q2, q3, _, q4⟩ := HQ.out
  refine ⟨_, rfl, ?_, HB2.out⟩
  have := R_blkI (base := w.heap.size) (ok := fun _ => True) q3 (by omega) (by rw [HL.out]; omega) trivial
  rw [HL.out] at this
  exact this
/-- Heights, whatever 'given' says. -/
theorem heights_any (hI : ThyIn w n m A2 kd hd bd Af fs) (hG : ∀ W, Below w.heap.size w W → Calls Try.prog 27 #[.agg #[.int .i64 n, v1, .slice A2 m c2, v3], .slice Af fs.length cf] W fun e w' => e = .returned (.int .i64 g) ∧ Below W.heap.size W w')
    (r : List Int) (x : Int) (h : (if g = 0 then (solveF n m kd hd bd fs).bind fun s => some (s.hgt, (0 : Int)) else some ([], g)) = some (r, x)) :
    Calls Try.prog 15 #[.agg #[.int .i64 n, v1, .slice A2 m c2, v3], .slice Af fs.length cf] w (ChosenPost w r x) := by
  by_cases hg : g = 0
  · subst hg
    rw [if_pos rfl] at h
    obtain ⟨s, hs, h⟩ := Option.bind_eq_some_iff.1 h
    cases h
    exact heights_good w n m v1 v3 A2 c2 Af cf fs kd hd bd hI hG s hs
  · rw [if_neg hg] at h
    cases h
    exact heights_bad w v1 v3 Af cf fs g _ _ hg hG
set_option maxHeartbeats 1000000 in
theorem one_bad (v0 v2 : Value) (lit : Int) (hg : g ≠ 0) (hG : ∀ W, Below w.heap.size w W → Calls Try.prog 27 #[.agg #[v0, v1, v2, v3], .slice Af fs.length cf] W fun e w' => e = .returned (.int .i64 g) ∧ Below W.heap.size W w') :
    Calls Try.prog 23 #[.agg #[v0, v1, v2, v3], .slice Af fs.length cf, .int .i64 lit] w fun e w' => e = .returned (.tuple #[.pointer none, .int .i64 g]) ∧ Below w.heap.size w w' := by
  have HG := Aside0.mk (hG _ (below_alloc (Below.refl _ _) (.cells #[v0, v1, v2, v3] 25 (0, 0))))
  have HB := Aside0.mk (below_alloc (Below.refl w.heap.size w) (.cells #[v0, v1, v2, v3] 25 (0, 0)))
  have t1 : (g != 0) = true := by simpa using hg
  clear hG hg
  go_enter Try.func23, Try.ntmps23
  go_wp2_with fail
  refine HG.out.mono ?_
  rintro e w1 ⟨rfl, hb⟩
  have HB1 := Aside0.mk (below_step HB.out hb)
  clear hb HG HB
  go_wp2_with fail
  go_ret2
  exact ⟨rfl, HB1.out⟩
set_option maxHeartbeats 1000000 in
theorem one_lit (lit : Int) (hl : lit < 0 ∨ (n : Int) ≤ lit) (hG : ∀ W, Below w.heap.size w W → Calls Try.prog 27 #[.agg #[.int .i64 n, v1, .slice A2 m c2, v3], .slice Af fs.length cf] W fun e w' => e = .returned (.int .i64 0) ∧ Below W.heap.size W w') :
    Calls Try.prog 23 #[.agg #[.int .i64 n, v1, .slice A2 m c2, v3], .slice Af fs.length cf, .int .i64 lit] w fun e w' => e = .returned (.tuple #[.pointer none, .int .i64 91]) ∧ Below w.heap.size w w' := by
  have hb0 := below_alloc (Below.refl w.heap.size w) (.cells #[.int .i64 n, v1, .slice A2 m c2, v3] 25 (0, 0))
  have HG := Aside0.mk (hG _ hb0)
  have HB := Aside0.mk hb0
  obtain ⟨g0, hg0⟩ : ∃ g0, g0 = w.heap.size := ⟨_, rfl⟩
  have HW := Aside0.mk (show (w.alloc (.cells #[.int .i64 n, v1, .slice A2 m c2, v3] 25 (0, 0))).heap[g0]? = some (.cells #[.int .i64 n, v1, .slice A2 m c2, v3] 25 (0, 0)) by rw [hg0]; exact blk_new w _)
  have HE := Aside0.mk hg0
  clear hG hb0 hg0
  by_cases h0 : lit < 0
  · have t0 : decide (lit < 0) = true := decide_eq_true h0
    clear hl h0
    go_enter Try.func23, Try.ntmps23
    go_wp2_with fail
    refine HG.out.mono ?_
    rintro e w1 ⟨rfl, hb⟩
    have HB1 := Aside0.mk (below_step HB.out hb)
    clear hb HG HB
    go_wp2_with fail
    go_ret2
    exact ⟨rfl, HB1.out⟩
  · have t0 : decide (lit < 0) = false := decide_eq_false h0
    have t1 : decide (lit ≥ (n : Int)) = true := decide_eq_true (by omega)
    clear hl h0
    go_enter Try.func23, Try.ntmps23
    go_wp2_with fail
    refine HG.out.mono ?_
    rintro e w1 ⟨rfl, hb⟩
    have HB1 := Aside0.mk (below_step HB.out hb)
    have HW1 := Aside0.mk (blk_below HW.out hb)
    have hg0 := HE.out
    rw [← hg0]
    clear hb HG HB HW hg0 HE
    have c0 : w1.cell? ⟨g0, 0, none⟩ = some (.int .i64 n) := blk_cell HW1.out 0
    go_wp2_with fail
    go_ret2
    exact ⟨rfl, HB1.out⟩
set_option maxHeartbeats 1000000 in
theorem one_good (lit : Int) (hl0 : 0 ≤ lit) (hl1 : lit < n) (hI : ThyIn w n m A2 kd hd bd Af fs) (hG : ∀ W, Below w.heap.size w W → Calls Try.prog 27 #[.agg #[.int .i64 n, v1, .slice A2 m c2, v3], .slice Af fs.length cf] W fun e w' => e = .returned (.int .i64 0) ∧ Below W.heap.size W w')
    (s : SV) (hs : solveF n m kd hd bd fs = some s) :
    Calls Try.prog 23 #[.agg #[.int .i64 n, v1, .slice A2 m c2, v3], .slice Af fs.length cf, .int .i64 lit] w fun e w' => ∃ (w0 : World) (ℓ : Nat → Nat) (B : SvB) (vt : Value) (vi vr : List Value), e = .returned (.tuple #[.pointer (some ⟨B.gs, 0, none⟩), .int .i64 0]) ∧ Slvd w0 w' ℓ B n m ⟨.int .i64 n, v1, .slice A2 m c2, v3⟩ vt vi vr s ∧ Below w.heap.size w w' := by
  have hb0 := below_alloc (Below.refl w.heap.size w) (.cells #[.int .i64 n, v1, .slice A2 m c2, v3] 25 (0, 0))
  have HG := Aside0.mk (hG _ hb0)
  have HI := Aside0.mk (hI.below hb0)
  have HS := Aside0.mk hs
  have HB := Aside0.mk hb0
  obtain ⟨g0, hg0⟩ : ∃ g0, g0 = w.heap.size := ⟨_, rfl⟩
  have HW := Aside0.mk (show (w.alloc (.cells #[.int .i64 n, v1, .slice A2 m c2, v3] 25 (0, 0))).heap[g0]? = some (.cells #[.int .i64 n, v1, .slice A2 m c2, v3] 25 (0, 0)) by rw [hg0]; exact blk_new w _)
  have HE := Aside0.mk hg0
  have t0 : decide (lit < 0) = false := decide_eq_false (by omega)
  have t1 : decide (lit ≥ (n : Int)) = false := decide_eq_false (by omega)
  clear hG hI hs hb0 hg0 hl0 hl1
  go_enter Try.func23, Try.ntmps23
  go_wp2_with fail
  refine HG.out.mono ?_
  rintro e w1 ⟨rfl, hb⟩
  have HB1 := Aside0.mk (below_step HB.out hb)
  have HI1 := Aside0.mk (HI.out.below hb)
  have HW1 := Aside0.mk (blk_below HW.out hb)
  have hg0 := HE.out
  rw [← hg0]
  clear hb HG HB HI HW hg0 HE
  have c0 : w1.cell? ⟨g0, 0, none⟩ = some (.int .i64 n) := blk_cell HW1.out 0
  have c1 : w1.cell? ⟨g0, 1, none⟩ = some v1 := blk_cell HW1.out 1
  have c2' : w1.cell? ⟨g0, 2, none⟩ = some (.slice A2 m c2) := blk_cell HW1.out 2
  have c3 : w1.cell? ⟨g0, 3, none⟩ = some v3 := blk_cell HW1.out 3
  go_wp2_with fail
  refine (solve_calls HI1.out HS.out).mono ?_
  rintro e w2 ⟨w0, ℓ, B, vt, vi, vr, rfl, hS, hb1, hb2⟩
  have HS2 := Aside0.mk (Slvd.mk hS)
  have HB2 := Aside0.mk (below_step HB1.out hb2)
  clear hS hb1 hb2 HB1 HI1 HW1 c0 c1 c2' c3 HS t0 t1
  go_wp2_with fail
  go_ret2
  exact ⟨w0, ℓ, B, vt, vi, vr, rfl, HS2.out, HB2.out⟩
end
/-- Loop's two functions. -/
theorem loop_fn1 {w0 W : World} {ℓ : Nat → Nat} {B : SvB} {n m : Nat} {T : TV} {vt : Value} {vi vr : List Value} {s : SV} {b8 : Nat} (hS : Slvd w0 W ℓ B n m T vt vi vr s) (hb : W.heap[b8]? = some (.cells #[.pointer (some ⟨B.gs, 0, none⟩)] 44 (0, 0))) {xs : List Int} (hx : ∀ x, x ∈ xs → 0 ≤ x ∧ x < m) :
    FnP 25 #[.pointer (some ⟨b8, 0, none⟩)] (fun r => !gb s.dead r) xs W := by
  refine ⟨fun args W => enters_ Try.func25 (by kernel_rfl) rfl args W, fun W' hB x hm => ?_⟩
  obtain ⟨h0, h1⟩ := hx x hm
  obtain ⟨_, _, _, _, _, _, _, _, c8, _⟩ := (hS.below hB).st.cells
  have d := (hS.below hB).st.atDe h0 h1
  have k : W'.cell? ⟨b8, 0, none⟩ = some (.pointer (some ⟨B.gs, 0, none⟩)) := blk_cell (blk_below hb hB) 0
  clear hS hb hx hm hB
  go_enter Try.func25, Try.ntmps25
  go_wp2_with fail
  go_ret
  exact ⟨rfl, Below.refl _ _⟩
theorem loop_fn2 {w0 W : World} {ℓ : Nat → Nat} {B : SvB} {n m : Nat} {T : TV} {vt : Value} {vi vr : List Value} {s : SV} {b8 : Nat} (hS : Slvd w0 W ℓ B n m T vt vi vr s) (hb : W.heap[b8]? = some (.cells #[.pointer (some ⟨B.gs, 0, none⟩)] 44 (0, 0))) {xs : List Int} (hx : ∀ x, x ∈ xs → 0 ≤ x ∧ x < n) :
    FnP 26 #[.pointer (some ⟨b8, 0, none⟩)] (fun r => !gb s.plus r) xs W := by
  refine ⟨fun args W => enters_ Try.func26 (by kernel_rfl) rfl args W, fun W' hB x hm => ?_⟩
  obtain ⟨h0, h1⟩ := hx x hm
  obtain ⟨_, _, _, _, _, _, _, _, _, _, c10, _⟩ := (hS.below hB).st.cells
  have d := (hS.below hB).st.atPl h0 h1
  have k : W'.cell? ⟨b8, 0, none⟩ = some (.pointer (some ⟨B.gs, 0, none⟩)) := blk_cell (blk_below hb hB) 0
  clear hS hb hx hm hB
  go_enter Try.func26, Try.ntmps26
  go_wp2_with fail
  go_ret
  exact ⟨rfl, Below.refl _ _⟩
/-- What 'Loop' and 'Least' look at. -/
structure LookAt (w W w0 : World) (ℓ : Nat → Nat) (B : SvB) (n m : Nat) (v1 v3 : Value) (A2 : Option Addr) (c2 : Nat) (kd hd : Int → Int) (bd : Int → List Int) (Af : Option Addr) (fs : List Int) (vt : Value) (vi vr : List Value) (s : SV) (g0 b8 : Nat) : Prop where
  st : Slvd w0 W ℓ B n m ⟨.int .i64 n, v1, .slice A2 m c2, v3⟩ vt vi vr s
  thy : ThyIn W n m A2 kd hd bd Af fs
  box : W.heap[g0]? = some (.cells #[.int .i64 n, v1, .slice A2 m c2, v3] 25 (0, 0))
  ptr : W.heap[b8]? = some (.cells #[.pointer (some ⟨B.gs, 0, none⟩)] 44 (0, 0))
  old : Below w.heap.size w W
theorem LookAt.below {w W W' w0 : World} {ℓ : Nat → Nat} {B : SvB} {n m : Nat} {v1 v3 : Value} {A2 : Option Addr} {c2 : Nat} {kd hd : Int → Int} {bd : Int → List Int} {Af : Option Addr} {fs : List Int} {vt : Value} {vi vr : List Value} {s : SV} {g0 b8 : Nat} (h : LookAt w W w0 ℓ B n m v1 v3 A2 c2 kd hd bd Af fs vt vi vr s g0 b8) (hb : Below W.heap.size W W') :
    LookAt w W' w0 ℓ B n m v1 v3 A2 c2 kd hd bd Af fs vt vi vr s g0 b8 := ⟨h.st.below hb, h.thy.below hb, blk_below h.box hb, blk_below h.ptr hb, below_step h.old hb⟩
/-- Along rules that are not dead, literals without +D. -/
def loopV (n m : Nat) (bd : Int → List Int) (s : SV) : Nat → List Bool → Int → List Int → Option (List Int)
  | 0, _, _, _ => none
  | k + 1, seen, lit, acc =>
    if (0 ≤ lit ∧ lit < n) ∧ acc.length < 1000000 then
      if gb seen lit = true then some acc else
        if (∀ r, r ∈ s.rls.getD lit.toNat [] → 0 ≤ r ∧ r < m) ∧ 0 ≤ idxF (fun r => !gb s.dead r) (s.rls.getD lit.toNat []) 0 ∧ idxF (fun r => !gb s.dead r) (s.rls.getD lit.toNat []) 0 < (s.rls.getD lit.toNat []).length then
          if (∀ b, b ∈ bd (rd (s.rls.getD lit.toNat []) (idxF (fun r => !gb s.dead r) (s.rls.getD lit.toNat []) 0)) → 0 ≤ b ∧ b < n) ∧ 0 ≤ idxF (fun b => !gb s.plus b) (bd (rd (s.rls.getD lit.toNat []) (idxF (fun r => !gb s.dead r) (s.rls.getD lit.toNat []) 0))) 0 ∧ idxF (fun b => !gb s.plus b) (bd (rd (s.rls.getD lit.toNat []) (idxF (fun r => !gb s.dead r) (s.rls.getD lit.toNat []) 0))) 0 < (bd (rd (s.rls.getD lit.toNat []) (idxF (fun r => !gb s.dead r) (s.rls.getD lit.toNat []) 0))).length then
            loopV n m bd s k (seen.set lit.toNat true) (rd (bd (rd (s.rls.getD lit.toNat []) (idxF (fun r => !gb s.dead r) (s.rls.getD lit.toNat []) 0))) (idxF (fun b => !gb s.plus b) (bd (rd (s.rls.getD lit.toNat []) (idxF (fun r => !gb s.dead r) (s.rls.getD lit.toNat []) 0))) 0))
              (acc ++ [rd (bd (rd (s.rls.getD lit.toNat []) (idxF (fun r => !gb s.dead r) (s.rls.getD lit.toNat []) 0))) (idxF (fun b => !gb s.plus b) (bd (rd (s.rls.getD lit.toNat []) (idxF (fun r => !gb s.dead r) (s.rls.getD lit.toNat []) 0))) 0)])
          else none
        else none
    else none
section
variable (w : World) (n m : Nat) (v1 v3 : Value) (A2 : Option Addr) (c2 : Nat) (Af : Option Addr) (cf : Nat) (fs : List Int) (kd hd : Int → Int) (bd : Int → List Int) (g : Int)
set_option maxHeartbeats 1000000 in
theorem loop_bad (v0 v2 : Value) (lit x : Int) (hx : x ≠ 0) (hO : ∀ W, Below w.heap.size w W → Calls Try.prog 23 #[.agg #[v0, v1, v2, v3], .slice Af fs.length cf, .int .i64 lit] W fun e w' => e = .returned (.tuple #[.pointer none, .int .i64 x]) ∧ Below W.heap.size W w') :
    Calls Try.prog 13 #[.agg #[v0, v1, v2, v3], .slice Af fs.length cf, .int .i64 lit] w (ChosenPost w [] x) := by
  have HG := Aside0.mk (hO _ (below_alloc (Below.refl _ _) (.cells #[v0, v1, v2, v3] 25 (0, 0))))
  have HB := Aside0.mk (below_alloc (Below.refl w.heap.size w) (.cells #[v0, v1, v2, v3] 25 (0, 0)))
  have t1 : (x != 0) = true := by simpa using hx
  clear hO hx
  go_enter Try.func13, Try.ntmps13
  go_wp2_with fail
  refine HG.out.mono ?_
  rintro e w1 ⟨rfl, hb⟩
  have HB1 := Aside0.mk (below_alloc (below_step HB.out hb) (.cells #[.pointer none] 44 (0, 0)))
  clear hb HG HB
  go_wp2_with fail
  go_ret2
  exact ⟨_, rfl, Kd.R_nil _ _ _ _ _, HB1.out⟩
set_option maxHeartbeats 4000000 in
set_option maxRecDepth 100000 in
theorem loop_good (lit : Int) (hl0 : 0 ≤ lit) (hl1 : lit < n) (hI : ThyIn w n m A2 kd hd bd Af fs) (hG : ∀ W, Below w.heap.size w W → Calls Try.prog 27 #[.agg #[.int .i64 n, v1, .slice A2 m c2, v3], .slice Af fs.length cf] W fun e w' => e = .returned (.int .i64 0) ∧ Below W.heap.size W w')
    (s : SV) (hs : solveF n m kd hd bd fs = some s) (fu : Nat) (r : List Int) (x : Int) (h : (if gb s.plus lit = true ∨ gb s.minus lit = true then some ([], (203 : Int)) else (loopV n m bd s fu (List.replicate n false) lit [lit]).bind fun r => some (r, 0)) = some (r, x)) :
    Calls Try.prog 13 #[.agg #[.int .i64 n, v1, .slice A2 m c2, v3], .slice Af fs.length cf, .int .i64 lit] w (ChosenPost w r x) := by
  have hn : n ≤ 4096 := by
    unfold solveF at hs
    by_cases hn : n ≤ 4096 ∧ m ≤ 4096
    · exact hn.1
    · rw [if_neg hn] at hs; cases hs
  have MB := fun w => mk_run (P := Try.prog) 31 4 (.bool false) 1 Try.underlying31 infoB rfl n (by omega) (by omega) w
  have hb0 := below_alloc (Below.refl w.heap.size w) (.cells #[.int .i64 n, v1, .slice A2 m c2, v3] 25 (0, 0))
  have HI := Aside0.mk (hI.below hb0)
  have HO := Aside0.mk (one_good _ n m v1 v3 A2 c2 Af cf fs kd hd bd lit hl0 hl1 HI.out (fun W hW => hG W (below_step hb0 hW)) s hs)
  have HB := Aside0.mk hb0
  obtain ⟨g0, hg0⟩ : ∃ g0, g0 = w.heap.size := ⟨_, rfl⟩
  have HW := Aside0.mk (show (w.alloc (.cells #[.int .i64 n, v1, .slice A2 m c2, v3] 25 (0, 0))).heap[g0]? = some (.cells #[.int .i64 n, v1, .slice A2 m c2, v3] 25 (0, 0)) by rw [hg0]; exact blk_new w _)
  have HE := Aside0.mk hg0
  have H := Aside0.mk h
  clear hG hI hs hb0 hg0 h
  go_enter Try.func13, Try.ntmps13
  go_wp2_with fail
  refine HO.out.mono ?_
  rintro e w1 ⟨w0, ℓ, B, vt, vi, vr, rfl, hS, hb⟩
  have hb2 := below_alloc (Below.refl w1.heap.size w1) (.cells #[.pointer (some ⟨B.gs, 0, none⟩)] 44 (0, 0))
  have hq : LookAt w (w1.alloc (.cells #[.pointer (some ⟨B.gs, 0, none⟩)] 44 (0, 0))) w0 ℓ B n m v1 v3 A2 c2 kd hd bd Af fs vt vi vr s g0 w1.heap.size := ⟨hS.below hb2, (HI.out.below hb).below hb2, blk_below (blk_below HW.out hb) hb2, blk_new w1 _, below_step (below_step HB.out hb) hb2⟩
  obtain ⟨b8, hb8⟩ : ∃ b8, b8 = w1.heap.size := ⟨_, rfl⟩
  rw [← hb8] at hq
  have HQ := Aside0.mk hq
  have HE8 := Aside0.mk hb8
  have hg0 := HE.out
  rw [← hg0]
  clear hb hb2 hb8 hS HO HB HI HW hg0 HE hq
  go_upto_region 2 with fail
  have hb8 := HE8.out
  rw [← hb8]
  clear hb8 HE8
  generalize w1.alloc (.cells #[.pointer (some ⟨B.gs, 0, none⟩)] 44 (0, 0)) = w2 at HQ ⊢
  as_aux_lemma =>
  obtain ⟨_, _, _, _, _, _, _, _, _, _, c10, c11, _⟩ := HQ.out.st.st.cells
  have dpl := HQ.out.st.st.atPl hl0 hl1
  have dmi := HQ.out.st.st.atMi hl0 hl1
  have k8 : w2.cell? ⟨b8, 0, none⟩ = some (.pointer (some ⟨B.gs, 0, none⟩)) := blk_cell HQ.out.ptr 0
  have h := H.out
  clear H
  by_cases hp : gb s.plus lit = true
  · rw [if_pos (.inl hp)] at h
    cases h
    rw [hp] at dpl
    clear hp
    go_wp2_with fail
    go_ret2
    exact ⟨_, rfl, Kd.R_nil _ _ _ _ _, HQ.out.old⟩
  · by_cases hm : gb s.minus lit = true
    · rw [if_pos (.inr hm)] at h
      cases h
      rw [hm] at dmi
      rw [Bool.eq_false_iff.2 hp] at dpl
      clear hp hm
      go_wp2_with fail
      go_ret2
      exact ⟨_, rfl, Kd.R_nil _ _ _ _ _, HQ.out.old⟩
    · rw [if_neg (by rintro (h | h); exact hp h; exact hm h)] at h
      obtain ⟨r', hr, h'⟩ := Option.bind_eq_some_iff.1 h
      clear h
      cases h'
      rw [Bool.eq_false_iff.2 hm] at dmi
      rw [Bool.eq_false_iff.2 hp] at dpl
      have HV := Aside0.mk hr
      clear hp hm hr
      have hb3 := below_alloc (Below.refl w2.heap.size w2) (.cells #[.int .i64 lit] 3 (0, 0))
      have HR := Aside0.mk (R_blkI (l := [lit]) (base := w2.heap.size) (ok := fun b => b < w2.heap.size + 1) (blk_new w2 (.cells (ints [lit]) 3 (0, 0))) (Nat.le_refl _) (by simp) (by omega))
      have HB3 := Aside0.mk hb3
      clear hb3
      go_upto_region 7 with fail
      have hz : (w2.alloc (.cells #[.int .i64 lit] 3 (0, 0))).heap.size = w2.heap.size + 1 := Array.size_push ..
      have HZ := Aside0.mk hz
      clear hz c10 c11 dpl dmi k8
      have HR : Aside0 (Kd.R (Kd.int .i64) 3 (w2.alloc (.cells #[.int .i64 lit] 3 (0, 0))) w2.heap.size (fun b => b < w2.heap.size + 1) (.slice (some ⟨w2.heap.size, 0, none⟩) 1 1) [lit]) := HR
      generalize Value.slice (some ⟨w2.heap.size, 0, none⟩) 1 1 = v10 at HR ⊢
      generalize w2.alloc (.cells #[.int .i64 lit] 3 (0, 0)) = w3 at HR HB3 HZ ⊢
      as_aux_lemma =>
      have c0 : w3.cell? ⟨g0, 0, none⟩ = some (.int .i64 n) := (HB3.out.cell (p := ⟨g0, 0, none⟩) (blk_lt HQ.out.box)).trans (blk_cell HQ.out.box 0)
      have E2 := Aside0.mk (show (w3.alloc (.cells (Array.replicate n (.bool false)) 4 (0, 0))).heap[w3.heap.size]? = some (.cells (bls (List.replicate n false)) 4 (0, 0)) by
        have := blk_new w3 (.cells (Array.replicate n (.bool false)) 4 (0, 0))
        simpa [bls, bools] using this)
      have HB4 := Aside0.mk (below_alloc HB3.out (.cells (Array.replicate n (.bool false)) 4 (0, 0)))
      have HR4 := Aside0.mk (Kd.R_mono (Kd.R_alloc HR.out (.cells (Array.replicate n (.bool false)) 4 (0, 0))) (ok' := fun b => b ≠ w3.heap.size) (fun b hb => by have := HZ.out; omega))
      have HGN := Aside0.mk (show w2.heap.size ≤ w3.heap.size by have := HZ.out; omega)
      clear HR HB3 HZ
      go_wp2_with fail
      clear c0 MB
      obtain ⟨gn, hgn⟩ : ∃ gn, gn = w3.heap.size := ⟨_, rfl⟩
      rw [← hgn] at E2 HR4 HGN ⊢
      clear hgn
      have E2 : Aside0 ((w3.alloc (.cells (Array.replicate n (.bool false)) 4)).heap[gn]? = some (.cells (bls (List.replicate n false)) 4 (0, 0))) := E2
      have HB4 : Aside0 (Below w2.heap.size w2 (w3.alloc (.cells (Array.replicate n (.bool false)) 4))) := HB4
      have HR4 : Aside0 (Kd.R (Kd.int .i64) 3 (w3.alloc (.cells (Array.replicate n (.bool false)) 4)) w2.heap.size (fun b => b ≠ gn) v10 [lit]) := HR4
      generalize w3.alloc (.cells (Array.replicate n (.bool false)) 4) = w4 at E2 HB4 HR4 ⊢
      as_aux_lemma =>
      go_loopg [2, 10] fu (fun kq v2 v10 wr => ∃ (lq : Int) (acc : List Int) (seen : List Bool), v2 = .int .i64 lq ∧ Aside0 (loopV n m bd s kq seen lq acc = some r) ∧ Aside0 (kq ≤ fu) ∧ Aside0 (seen.length = n) ∧ Aside0 (wr.heap[gn]? = some (.cells (bls seen) 4 (0, 0))) ∧ Aside0 (Kd.R (Kd.int .i64) 3 wr w2.heap.size (fun b => b ≠ gn) v10 acc) ∧ Aside0 (Below w2.heap.size w2 wr))
      case atStart => exact ⟨lit, [lit], List.replicate n false, rfl, HV, ⟨Nat.le_refl _⟩, ⟨by simp⟩, E2, HR4, HB4⟩
      case round =>
        clear HV E2 HR4 HB4
        obtain ⟨lq, acc, seen, rfl, HV, HK, HSL, E2, HR, HB⟩ := hrel
        cases gk with
        | zero => exact absurd HV.out (by simp [loopV])
        | succ k2 =>
          as_aux_lemma =>
          have hv := HV.out
          simp only [loopV] at hv
          by_cases hg : (0 ≤ lq ∧ lq < n) ∧ acc.length < 1000000
          rotate_left
          · rw [if_neg hg] at hv; cases hv
          rw [if_pos hg] at hv
          obtain ⟨⟨hq0, hq1⟩, hal⟩ := hg
          clear HV
          have dse : wr.cell? ⟨gn, lq.toNat, none⟩ = some (.bool (gb seen lq)) := (blk_cell E2.out _).trans (bls_at hq0 (by rw [HSL.out]; exact hq1))
          by_cases hsn : gb seen lq = true
          · rw [if_pos hsn] at hv
            cases hv
            rw [hsn] at dse
            clear hsn
            go_wp2_with fail
            go_ret2
            exact ⟨_, rfl, Kd.R_mono (Kd.R_lower HR.out HQ.out.old.size) (fun _ _ => trivial), below_step HQ.out.old HB.out⟩
          · rw [if_neg hsn] at hv
            rw [Bool.eq_false_iff.2 hsn] at dse
            clear hsn
            obtain ⟨rows, hrows⟩ : ∃ rows, rows = s.rls.getD lq.toNat [] := ⟨_, rfl⟩
            rw [← hrows] at hv
            obtain ⟨i, hi⟩ : ∃ i, i = idxF (fun r => !gb s.dead r) rows 0 := ⟨_, rfl⟩
            rw [← hi] at hv
            by_cases hg1 : (∀ r, r ∈ rows → 0 ≤ r ∧ r < m) ∧ 0 ≤ i ∧ i < rows.length
            rotate_left
            · rw [if_neg hg1] at hv; cases hv
            rw [if_pos hg1] at hv
            obtain ⟨hrm, hi0, hi1⟩ := hg1
            have hrr := hrm (rd rows i) (by have := rd_mem (l := rows) (j := i.toNat) (by omega); rwa [Int.toNat_of_nonneg hi0] at this)
            obtain ⟨rr, hrrd⟩ : ∃ rr, rr = rd rows i := ⟨_, rfl⟩
            rw [← hrrd] at hv hrr
            obtain ⟨bs, hbs⟩ : ∃ bs, bs = bd rr := ⟨_, rfl⟩
            rw [← hbs] at hv
            obtain ⟨j, hj⟩ : ∃ j, j = idxF (fun b => !gb s.plus b) bs 0 := ⟨_, rfl⟩
            rw [← hj] at hv
            by_cases hg2 : (∀ b, b ∈ bs → 0 ≤ b ∧ b < n) ∧ 0 ≤ j ∧ j < bs.length
            rotate_left
            · rw [if_neg hg2] at hv; cases hv
            rw [if_pos hg2] at hv
            obtain ⟨hbm, hj0, hj1⟩ := hg2
            obtain ⟨rr0, rr1⟩ := hrr
            have HV2 := Aside0.mk hv
            clear hv
            -- the rows
            have hbw := HB.out
            have hset := below_set (j := lq.toNat) (v := .bool true) HB.out HGN.out
            have HQ5 := Aside0.mk (HQ.out.below hset)
            have E5 := Aside0.mk (show (wr.setCell ⟨gn, lq.toNat, none⟩ (.bool true)).heap[gn]? = some (.cells (bls (seen.set lq.toNat true)) 4 (0, 0)) by have := blk_set E2.out lq.toNat (.bool true); rwa [bls_set] at this)
            have HR5 := Aside0.mk (Kd.R_far HR.out (p := ⟨gn, lq.toNat, none⟩) (fun k hk => hk) (.bool true))
            have HB5 := Aside0.mk hset
            have HSL5 := Aside0.mk (show (seen.set lq.toNat true).length = n by rw [List.length_set]; exact HSL.out)
            have fse := blk_frozen E2.out lq.toNat
            clear hset hbw HSL HB HR
            go_upto_region 10 with fail
            clear dse fse E2
            generalize wr.setCell ⟨gn, lq.toNat, none⟩ (.bool true) = w5 at HQ5 E5 HR5 HB5 ⊢
            as_aux_lemma =>
            obtain ⟨_, _, _, _, _, _, c6, _⟩ := HQ5.out.st.st.cells
            have k8 : w5.cell? ⟨b8, 0, none⟩ = some (.pointer (some ⟨B.gs, 0, none⟩)) := blk_cell HQ5.out.ptr 0
            obtain ⟨l1, l2⟩ := HQ5.out.st.st.lsRow hq0 hq1
            rw [← hrows] at l2
            have l3 := HQ5.out.st.st.M.row _ _ _ l2
            obtain ⟨Ar, cr, er⟩ := Kd.R_slice l3
            rw [er] at l1 l3
            have l4 := (Kd.R_reads' l3).2.2
            obtain ⟨ad, rfl, hel⟩ := Kd.at_int l4 i hi0 hi1
            rw [← hrrd] at hel
            have HC1 := Aside0.mk l4
            have HX1 := Aside0.mk hrm
            have HX2 := Aside0.mk hbm
            have HI1 := Aside0.mk hi
            have HJ1 := Aside0.mk hj
            have HBS := Aside0.mk hbs
            clear l2 l3 l4 er hrows hi hj hbs hrm hbm hrrd
            refine start_ (n := 19) (S := fun w' => w'.cell? ⟨b8, 0, none⟩ = some (.pointer (some ⟨B.gs, 0, none⟩)) ∧ w'.cell? ⟨B.gs, 6, none⟩ = some (.slice (some ⟨B.br, 0, none⟩) n n) ∧ w'.cell? ⟨B.br, lq.toNat, none⟩ = some (.slice (some ad) rows.length cr) ∧ w'.cell? (ad.add i.toNat) = some (.int .i64 rr)) (ds := []) #[false, false, false, false, false, false, false, false, false, false, false, false, false, false, false, false, false, false, false] (by kernel_rfl) rfl rfl (⟨k8, c6, l1, hel⟩) (fun hHeld => ?_)
            refine pure_ (i := 4) (N := some 57) (v := ?_) (a' := ?_) #[false, false, false, false, true, false, false, false, false, false, false, false, false, false, false, false, false, false, false] rfl rfl (by kernel_rfl) (fun _ _ _ h => h) (Or.inl ⟨by rfl, ?_⟩) ?_ ?_
            rotate_left
            · intro w'
              go_simp
              with_reducible rfl
            rotate_left
            · simp only [Act.put, List.setIfInBounds_toArray, List.set_cons_zero, List.set_cons_succ, i64_w, i32_w]
              rfl
            refine pure_ (i := 11) (N := some 64) (v := ?_) (a' := ?_) #[false, false, false, false, true, false, false, false, false, false, false, true, false, false, false, false, false, false, false] rfl rfl (by kernel_rfl) (fun _ _ _ h => h) (Or.inl ⟨by rfl, ?_⟩) ?_ ?_
            rotate_left
            · intro w'
              go_simp
              with_reducible rfl
            rotate_left
            · simp only [Act.put, List.setIfInBounds_toArray, List.set_cons_zero, List.set_cons_succ, i64_w, i32_w]
              rfl
            refine pure_ (i := 14) (N := some 67) (v := ?_) (a' := ?_) #[false, false, false, false, true, false, false, false, false, false, false, true, false, false, true, false, false, false, false] rfl rfl (by kernel_rfl) (fun _ _ _ h => h) (Or.inl ⟨by rfl, ?_⟩) ?_ ?_
            rotate_left
            · intro w'
              go_simp
              with_reducible rfl
            rotate_left
            · simp only [Act.put, List.setIfInBounds_toArray, List.set_cons_zero, List.set_cons_succ, i64_w, i32_w]
              rfl
            refine take_ (i := 0) (N := some 53) (v := ?_) (a' := ?_) #[true, false, false, false, true, false, false, false, false, false, false, true, false, false, true, false, false, false, false] rfl rfl (by kernel_rfl) (fun _ _ _ h => h) (Or.inl ⟨by rfl, ?_⟩) hHeld ?_ ?_
            rotate_left
            · rintro w' ⟨s0, s1, s2, s3⟩
              go_simp
              with_reducible rfl
            rotate_left
            · simp only [Act.put, List.setIfInBounds_toArray, List.set_cons_zero, List.set_cons_succ, i64_w, i32_w]
              rfl
            refine pure_ (i := 1) (N := some 54) (v := ?_) (a' := ?_) #[true, true, false, false, true, false, false, false, false, false, false, true, false, false, true, false, false, false, false] rfl rfl (by kernel_rfl) (fun _ _ _ h => h) (Or.inl ⟨by rfl, ?_⟩) ?_ ?_
            rotate_left
            · intro w'
              go_simp
              with_reducible rfl
            rotate_left
            · simp only [Act.put, List.setIfInBounds_toArray, List.set_cons_zero, List.set_cons_succ, i64_w, i32_w]
              rfl
            refine pure_ (i := 2) (N := some 55) (v := ?_) (a' := ?_) #[true, true, true, false, true, false, false, false, false, false, false, true, false, false, true, false, false, false, false] rfl rfl (by kernel_rfl) (fun _ _ _ h => h) (Or.inl ⟨by rfl, ?_⟩) ?_ ?_
            rotate_left
            · intro w'
              go_simp
              with_reducible rfl
            rotate_left
            · simp only [Act.put, List.setIfInBounds_toArray, List.set_cons_zero, List.set_cons_succ, i64_w, i32_w]
              rfl
            refine take_ (i := 3) (N := some 56) (v := ?_) (a' := ?_) #[true, true, true, true, true, false, false, false, false, false, false, true, false, false, true, false, false, false, false] rfl rfl (by kernel_rfl) (fun _ _ _ h => h) (Or.inl ⟨by rfl, ?_⟩) hHeld ?_ ?_
            rotate_left
            · rintro w' ⟨s0, s1, s2, s3⟩
              go_simp
              with_reducible rfl
            rotate_left
            · simp only [Act.put, List.setIfInBounds_toArray, List.set_cons_zero, List.set_cons_succ, i64_w, i32_w]
              rfl
            refine pure_ (i := 5) (N := some 58) (v := ?_) (a' := ?_) #[true, true, true, true, true, true, false, false, false, false, false, true, false, false, true, false, false, false, false] rfl rfl (by kernel_rfl) (fun _ _ _ h => h) (Or.inl ⟨by rfl, ?_⟩) ?_ ?_
            rotate_left
            · intro w'
              go_simp
              with_reducible rfl
            rotate_left
            · simp only [Act.put, List.setIfInBounds_toArray, List.set_cons_zero, List.set_cons_succ, i64_w, i32_w]
              rfl
            refine take_ (i := 6) (N := some 59) (v := ?_) (a' := ?_) #[true, true, true, true, true, true, true, false, false, false, false, true, false, false, true, false, false, false, false] rfl rfl (by kernel_rfl) (fun _ _ _ h => h) (Or.inl ⟨by rfl, ?_⟩) hHeld ?_ ?_
            rotate_left
            · rintro w' ⟨s0, s1, s2, s3⟩
              go_simp
              with_reducible rfl
            rotate_left
            · simp only [Act.put, List.setIfInBounds_toArray, List.set_cons_zero, List.set_cons_succ, i64_w, i32_w]
              rfl
            refine take_ (i := 7) (N := some 60) (v := ?_) (a' := ?_) #[true, true, true, true, true, true, true, true, false, false, false, true, false, false, true, false, false, false, false] rfl rfl (by kernel_rfl) (fun _ _ _ h => h) (Or.inl ⟨by rfl, ?_⟩) hHeld ?_ ?_
            rotate_left
            · rintro w' ⟨s0, s1, s2, s3⟩
              go_simp
              with_reducible rfl
            rotate_left
            · simp only [Act.put, List.setIfInBounds_toArray, List.set_cons_zero, List.set_cons_succ, i64_w, i32_w]
              rfl
            refine pure_ (i := 8) (N := some 61) (v := ?_) (a' := ?_) #[true, true, true, true, true, true, true, true, true, false, false, true, false, false, true, false, false, false, false] rfl rfl (by kernel_rfl) (fun _ _ _ h => h) (Or.inl ⟨by rfl, ?_⟩) ?_ ?_
            rotate_left
            · intro w'
              go_simp
              with_reducible rfl
            rotate_left
            · simp only [Act.put, List.setIfInBounds_toArray, List.set_cons_zero, List.set_cons_succ, i64_w, i32_w]
              rfl
            refine pure_ (i := 9) (N := some 62) (v := ?_) (a' := ?_) #[true, true, true, true, true, true, true, true, true, true, false, true, false, false, true, false, false, false, false] rfl rfl (by kernel_rfl) (fun _ _ _ h => h) (Or.inl ⟨by rfl, ?_⟩) ?_ ?_
            rotate_left
            · intro w'
              go_simp
              with_reducible rfl
            rotate_left
            · simp only [Act.put, List.setIfInBounds_toArray, List.set_cons_zero, List.set_cons_succ, i64_w, i32_w]
              rfl
            refine take_ (i := 10) (N := some 63) (v := ?_) (a' := ?_) #[true, true, true, true, true, true, true, true, true, true, true, true, false, false, true, false, false, false, false] rfl rfl (by kernel_rfl) (fun _ _ _ h => h) (Or.inl ⟨by rfl, ?_⟩) hHeld ?_ ?_
            rotate_left
            · rintro w' ⟨s0, s1, s2, s3⟩
              go_simp
              with_reducible rfl
            rotate_left
            · simp only [Act.put, List.setIfInBounds_toArray, List.set_cons_zero, List.set_cons_succ, i64_w, i32_w]
              rfl
            refine pure_ (i := 12) (N := some 65) (v := ?_) (a' := ?_) #[true, true, true, true, true, true, true, true, true, true, true, true, true, false, true, false, false, false, false] rfl rfl (by kernel_rfl) (fun _ _ _ h => h) (Or.inl ⟨by rfl, ?_⟩) ?_ ?_
            rotate_left
            · intro w'
              go_simp
              with_reducible rfl
            rotate_left
            · simp only [Act.put, List.setIfInBounds_toArray, List.set_cons_zero, List.set_cons_succ, i64_w, i32_w]
              rfl
            refine take_ (i := 13) (N := some 66) (v := ?_) (a' := ?_) #[true, true, true, true, true, true, true, true, true, true, true, true, true, true, true, false, false, false, false] rfl rfl (by kernel_rfl) (fun _ _ _ h => h) (Or.inl ⟨by rfl, ?_⟩) hHeld ?_ ?_
            rotate_left
            · rintro w' ⟨s0, s1, s2, s3⟩
              go_simp
              with_reducible rfl
            rotate_left
            · simp only [Act.put, List.setIfInBounds_toArray, List.set_cons_zero, List.set_cons_succ, i64_w, i32_w]
              rfl
            refine one_ (i := 15) (N := some 68) #[true, true, true, true, true, true, true, true, true, true, true, true, true, true, true, true, false, false, false] rfl rfl (by kernel_rfl) (by decide) (fun K hK => ?_)
            refine call_ 24 #[.slice (some ad) rows.length cr, .func (.func 25) #[] #[.pointer (some ⟨b8, 0, none⟩)]] (by rfl) rfl ?_ ?_
            · go_simp
            have hdr := below_drew (Below.refl w5.heap.size w5)
            have HQd := HQ5.out.below hdr
            refine (indexFunc_any 25 #[.pointer (some ⟨b8, 0, none⟩)] (fun r => !gb s.dead r) (some ad) cr rows _ (Kd.C_below HC1.out hdr) (loop_fn1 HQd.st HQd.ptr HX1.out)).mono ?_
            rintro e w9 ⟨rfl, hb⟩
            refine ⟨_, rfl, ?_⟩
            have h5 := below_step hdr hb
            rw [← HI1.out]
            have HQ9 := Aside0.mk (HQ5.out.below h5)
            have E9 := Aside0.mk (blk_below E5.out h5)
            have HR9 := Aside0.mk (Kd.R_below HR5.out h5)
            have HB9 := Aside0.mk (below_step HB5.out h5)
            refine hK.out _ _ (⟨(h5.cell (World.block_lt_of_cell? w5 _ k8)).trans k8, (h5.cell (World.block_lt_of_cell? w5 _ c6)).trans c6, (h5.cell (World.block_lt_of_cell? w5 _ l1)).trans l1, (h5.cell (World.block_lt_of_cell? w5 _ hel)).trans hel⟩) (fun hHeld => ?_)
            clear hK K
            refine norm_ (a' := ?_) ?_ ?_
            rotate_left
            · show Act.put _ (some 68) _ = _
              simp only [Act.put, List.setIfInBounds_toArray, List.set_cons_zero, List.set_cons_succ, i64_w, i32_w]
              rfl
            clear hb hdr HQd h5 HQ5 E5 HR5 HB5 k8 c6 l1 hel HC1
            refine pure_ (i := 16) (N := some 69) (v := ?_) (a' := ?_) #[true, true, true, true, true, true, true, true, true, true, true, true, true, true, true, true, true, false, false] rfl rfl (by kernel_rfl) (fun _ _ _ h => h) (Or.inl ⟨by rfl, ?_⟩) ?_ ?_
            rotate_left
            · intro w'
              go_simp
              with_reducible rfl
            rotate_left
            · simp only [Act.put, List.setIfInBounds_toArray, List.set_cons_zero, List.set_cons_succ, i64_w, i32_w]
              rfl
            refine take_ (i := 17) (N := some 70) (v := ?_) (a' := ?_) #[true, true, true, true, true, true, true, true, true, true, true, true, true, true, true, true, true, true, false] rfl rfl (by kernel_rfl) (fun _ _ _ h => h) (Or.inl ⟨by rfl, ?_⟩) hHeld ?_ ?_
            rotate_left
            · rintro w' ⟨s0, s1, s2, s3⟩
              go_simp
              with_reducible rfl
            rotate_left
            · simp only [Act.put, List.setIfInBounds_toArray, List.set_cons_zero, List.set_cons_succ, i64_w, i32_w]
              rfl
            refine pure_ (i := 18) (N := some 12) (v := ?_) (a' := ?_) #[true, true, true, true, true, true, true, true, true, true, true, true, true, true, true, true, true, true, true] rfl rfl (by kernel_rfl) (fun _ _ _ h => h) (Or.inl ⟨by rfl, ?_⟩) ?_ ?_
            rotate_left
            · intro w'
              go_simp
              with_reducible rfl
            rotate_left
            · simp only [Act.put, List.setIfInBounds_toArray, List.set_cons_zero, List.set_cons_succ, i64_w, i32_w]
              rfl
            refine done_ (by kernel_rfl) ?_
            as_aux_lemma =>
            obtain ⟨ad2, Ab, cb, hA2, _, _, h2, h3⟩ := HQ9.out.thy.rules rr rr0 rr1
            have k2 : w9.cell? ⟨g0, 2, none⟩ = some (.slice A2 m c2) := blk_cell HQ9.out.box 2
            rw [hA2] at k2
            rw [← HBS.out] at h2 h3
            obtain ⟨ad3, hA3, hel⟩ := Kd.at_int h3 j hj0 hj1
            rw [hA3] at h2 h3
            have hj1' : j < (bs.length : Int) := hj1
            have HC3 := Aside0.mk h3
            have HEL := Aside0.mk hel
            have hmx := Kd.C_max h3
            have HI3 := Aside0.mk (indexFunc_any 26 #[.pointer (some ⟨b8, 0, none⟩)] (fun b => !gb s.plus b) (some ad3) cb bs _ h3 (loop_fn2 HQ9.out.st HQ9.out.ptr HX2.out))
            clear h3 hA2 hA3 hel
            go_wp2_with fail
            refine HI3.out.mono ?_
            rintro e w10 ⟨rfl, hb⟩
            rw [← HJ1.out]
            have hel := (hb.cell (World.block_lt_of_cell? w9 _ HEL.out)).trans HEL.out
            have HE10 := Aside0.mk (blk_below E9.out hb)
            have HR10 := Aside0.mk (Kd.R_below HR9.out hb)
            have HB10 := Aside0.mk (below_step HB9.out hb)
            clear hb HQ9 E9 HR9 HB9 k2 h2 HI3 HEL HC3
            go_upto_region 13 with fail
            clear hel
            generalize rd bs j = nx at HV2 ⊢
            obtain ⟨As, cs, eS⟩ := Kd.R_slice HR10.out
            subst eS
            have hbs := HB10.out.size
            go_wp2_with (at_builtin; refine Kd.R_append (Kd.int .i64) (w0 := w2) w2.heap.size rfl (.tmp 83) (.tmp 85) 26 3 (.int .i64 0) 8 rfl Try.underlying26 infoI rfl (by decide) (by omega) (.slice As acc.length cs) acc nx [.int .i64 nx] (fun b => b ≠ gn) (fun _ => False) rfl rfl rfl (fun _ h => h.elim) (fun k hk e => by have := blk_lt HE10.out; omega) HR10.out HB10.out hbs (by omega) ?_; intro v1 w3 hR hB hg hat; have HR3 := Aside0.mk hR; have HB3 := Aside0.mk hB; have HE3 := Aside0.mk (blk_grown HE10.out hg (fun e => by have := HR10.out.1 _ e.symm; exact this rfl)); clear hR hB hg hat)
            go_roundg k2
            case measure => have := HK.out; omega
            case rel => exact ⟨nx, _, _, rfl, HV2, ⟨by have := HK.out; omega⟩, HSL5, HE3, HR3, HB3⟩
end
end Go.Proofs.Ythlmpioijjnmnaa.P
