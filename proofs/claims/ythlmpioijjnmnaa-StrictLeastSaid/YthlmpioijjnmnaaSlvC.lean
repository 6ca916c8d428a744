/- Strict proof: what is picked of what is solved. -/
import Derived.Test.YthlmpioijjnmnaaSlvB
namespace Go.Proofs.Ythlmpioijjnmnaa.P
open Go.RowKit Go.Proofs.YthlmpioijjnmnaaW.PrintWords Go.Proofs.YthlmpioijjnmnaaW.PrintLast Go.Proofs.YthlmpioijjnmnaaW.PrintMore Go.Proofs.Ythlmpioijjnmnaa.K
set_option linter.unusedVariables false
set_option linter.unusedSimpArgs false

/-- All that is solved. -/
def solveF (n m : Nat) (kd hd : Int → Int) (bd : Int → List Int) (fs : List Int) : Option SV :=
  if n ≤ 4096 ∧ m ≤ 4096 then (factsV n fs (zeroV n m)).bind fun s1 => (rulesV n kd hd bd (irange m) s1).bind fun s2 => (noneV n (irange n) s2).bind fun s3 => waveV n m hd n 0 s3 else none
/-- What comes in: a theory with its rules, facts. -/
structure ThyIn (w : World) (n m : Nat) (A2 : Option Addr) (kd hd : Int → Int) (bd : Int → List Int) (Af : Option Addr) (fs : List Int) : Prop where
  facts : Kd.C (Kd.int .i64) w Af fs.length fs
  rules : RulesAt w A2 m kd hd bd
section
variable {w W : World} {n m : Nat} {v1 v3 : Value} {A2 : Option Addr} {c2 : Nat} {Af : Option Addr} {cf : Nat} {fs : List Int} {kd hd : Int → Int} {bd : Int → List Int} {s : SV}
theorem RulesAt.below (h : RulesAt w A2 m kd hd bd) (hb : Below w.heap.size w W) : RulesAt W A2 m kd hd bd := fun r r0 r1 => by
  obtain ⟨ad, Ab, cb, rfl, h1, h2, h3, h4⟩ := h r r0 r1
  exact ⟨ad, Ab, cb, rfl, (hb.cell (World.block_lt_of_cell? w _ h1)).trans h1, (hb.cell (World.block_lt_of_cell? w _ h2)).trans h2, (hb.cell (World.block_lt_of_cell? w _ h3)).trans h3, Kd.C_below h4 hb⟩
theorem ThyIn.below (h : ThyIn w n m A2 kd hd bd Af fs) (hb : Below w.heap.size w W) : ThyIn W n m A2 kd hd bd Af fs := ⟨Kd.C_below h.facts hb, h.rules.below hb⟩
theorem solve_calls (hI : ThyIn w n m A2 kd hd bd Af fs) (h : solveF n m kd hd bd fs = some s) :
    Calls Try.prog 28 #[.agg #[.int .i64 n, v1, .slice A2 m c2, v3], .slice Af fs.length cf] w (SolvePost w n m v1 v3 A2 c2 s) := by
  unfold solveF at h
  by_cases hn : n ≤ 4096 ∧ m ≤ 4096
  · rw [if_pos hn] at h
    obtain ⟨s1, h1, h⟩ := Option.bind_eq_some_iff.1 h
    obtain ⟨s2, h2, h⟩ := Option.bind_eq_some_iff.1 h
    obtain ⟨s3, h3, h⟩ := Option.bind_eq_some_iff.1 h
    exact solve_any w n m hn.1 hn.2 v1 v3 A2 c2 Af cf fs kd hd bd s1 hI.facts hI.rules h1 s2 h2 s3 h3 s h
  · rw [if_neg hn] at h; cases h
end
/-- The solver stands in old memory. -/
structure Slvd (w0 w1 : World) (ℓ : Nat → Nat) (B : SvB) (n m : Nat) (T : TV) (vt : Value) (vi vr : List Value) (s : SV) : Prop where
  st : SvS w0 w1 ℓ B n m T vt vi vr s [] [] []
theorem Slvd.below {w0 w1 W : World} {ℓ : Nat → Nat} {B : SvB} {n m : Nat} {T : TV} {vt : Value} {vi vr : List Value} {s : SV} (h : Slvd w0 w1 ℓ B n m T vt vi vr s) (hb : Below w1.heap.size w1 W) : Slvd w0 W ℓ B n m T vt vi vr s := ⟨h.st.below hb⟩
/-- A function that picks. -/
def PickP (g : Nat) (p : SV → Int → Bool) : Prop :=
  (∀ args W, (callFunc g args).run Try.prog W = .ok (.enter g args) W) ∧ ∀ (w0 W : World) (ℓ : Nat → Nat) (B : SvB) (n m : Nat) (T : TV) (vt : Value) (vi vr : List Value) (s : SV) (q : Int), Slvd w0 W ℓ B n m T vt vi vr s → 0 ≤ q → q < n →
    Calls Try.prog g #[.pointer (some ⟨B.gs, 0, none⟩), .int .i64 q] W fun e W' => e = .returned (.bool (p s q)) ∧ W' = W
theorem pick_plus : PickP 20 fun s q => gb s.plus q := by
  refine ⟨fun args W => enters_ Try.func20 (by kernel_rfl) rfl args W, fun w0 W ℓ B n m T vt vi vr s q hS h0 h1 => ?_⟩
  obtain ⟨_, _, _, _, _, _, _, _, _, _, c10, _⟩ := hS.st.cells
  have d := hS.st.atPl h0 h1
  clear hS
  go_enter Try.func20, Try.ntmps20
  go_wp2_with fail
  go_ret
  exact ⟨rfl, rfl⟩
theorem pick_minus : PickP 21 fun s q => gb s.minus q := by
  refine ⟨fun args W => enters_ Try.func21 (by kernel_rfl) rfl args W, fun w0 W ℓ B n m T vt vi vr s q hS h0 h1 => ?_⟩
  obtain ⟨_, _, _, _, _, _, _, _, _, _, _, c11, _⟩ := hS.st.cells
  have d := hS.st.atMi h0 h1
  clear hS
  go_enter Try.func21, Try.ntmps21
  go_wp2_with fail
  go_ret
  exact ⟨rfl, rfl⟩
theorem pick_neither : PickP 22 fun s q => !gb s.plus q && !gb s.minus q := by
  refine ⟨fun args W => enters_ Try.func22 (by kernel_rfl) rfl args W, fun w0 W ℓ B n m T vt vi vr s q hS h0 h1 => ?_⟩
  obtain ⟨_, _, _, _, _, _, _, _, _, _, c10, c11, _⟩ := hS.st.cells
  have d := hS.st.atPl h0 h1
  have d' := hS.st.atMi h0 h1
  clear hS
  show Calls _ _ _ _ fun e W' => e = .returned (.bool (!gb s.plus q && !gb s.minus q)) ∧ W' = W
  generalize gb s.plus q = a at d ⊢
  generalize gb s.minus q = b at d' ⊢
  cases a <;> cases b
  all_goals
    go_enter Try.func22, Try.ntmps22
    go_wp2_with fail
    go_ret
    exact ⟨rfl, rfl⟩
/-- Of the literals, those that are picked. -/
def pickF (p : SV → Int → Bool) (s : SV) : List Int → List Int
  | [] => []
  | q :: qs => if p s q = true then q :: pickF p s qs else pickF p s qs
theorem pickF_len (p : SV → Int → Bool) (s : SV) : ∀ l, (pickF p s l).length ≤ l.length
  | [] => Nat.le_refl _
  | q :: qs => by
    have := pickF_len p s qs
    unfold pickF
    split <;> simp <;> omega
def ChosenPost (w : World) (r : List Int) (x : Int) (e : Ending) (w' : World) : Prop := ∃ v0_ : Value, e = .returned (.tuple #[v0_, .int .i64 x]) ∧ Kd.R (Kd.int .i64) 3 w' w.heap.size (fun _ => True) v0_ r ∧ Below w.heap.size w w'
theorem pickF_snoc {p : SV → Int → Bool} {s : SV} {acc r : List Int} {q : Int} {l : List Int} (hp : p s q = true) (h : acc ++ pickF p s (q :: l) = r) : (acc ++ [q]) ++ pickF p s l = r := by
  rw [← h]; simp [pickF, hp]
theorem pickF_skip {p : SV → Int → Bool} {s : SV} {acc r : List Int} {q : Int} {l : List Int} (hp : p s q = false) (h : acc ++ pickF p s (q :: l) = r) : acc ++ pickF p s l = r := by
  rw [← h]; simp [pickF, hp]
set_option maxHeartbeats 4000000 in
set_option maxRecDepth 100000 in
theorem chosen_bad (w : World) (v0 v1 v2 v3 : Value) (Af : Option Addr) (cf : Nat) (fs : List Int) (g : Int) (hg : g ≠ 0) (pf : Nat)
    (hG : ∀ W, Below w.heap.size w W → Calls Try.prog 27 #[.agg #[v0, v1, v2, v3], .slice Af fs.length cf] W fun e w' => e = .returned (.int .i64 g) ∧ Below W.heap.size W w') :
    Calls Try.prog 19 #[.agg #[v0, v1, v2, v3], .slice Af fs.length cf, .func (.func pf) #[] #[]] w (ChosenPost w [] g) := by
  have HG := Aside0.mk (hG _ (below_alloc (Below.refl _ _) (.cells #[v0, v1, v2, v3] 25 (0, 0))))
  have HB := Aside0.mk (below_alloc (Below.refl w.heap.size w) (.cells #[v0, v1, v2, v3] 25 (0, 0)))
  have t1 : (g != 0) = true := by simpa using hg
  clear hG hg
  go_enter Try.func19, Try.ntmps19
  go_wp2_with fail
  refine HG.out.mono ?_
  rintro e w1 ⟨rfl, hb⟩
  have HB1 := Aside0.mk (below_step HB.out hb)
  clear hb HG HB
  go_wp2_with fail
  go_ret2
  exact ⟨_, rfl, Kd.R_nil _ _ _ _ _, HB1.out⟩
set_option maxHeartbeats 4000000 in
set_option maxRecDepth 100000 in
theorem chosen_good (w : World) (n m : Nat) (v1 v3 : Value) (A2 : Option Addr) (c2 : Nat) (Af : Option Addr) (cf : Nat) (fs : List Int) (kd hd : Int → Int) (bd : Int → List Int) (hI : ThyIn w n m A2 kd hd bd Af fs) (pf : Nat) (p : SV → Int → Bool) (hp : PickP pf p)
    (hG : ∀ W, Below w.heap.size w W → Calls Try.prog 27 #[.agg #[.int .i64 n, v1, .slice A2 m c2, v3], .slice Af fs.length cf] W fun e w' => e = .returned (.int .i64 0) ∧ Below W.heap.size W w')
    (s : SV) (hs : solveF n m kd hd bd fs = some s) :
    Calls Try.prog 19 #[.agg #[.int .i64 n, v1, .slice A2 m c2, v3], .slice Af fs.length cf, .func (.func pf) #[] #[]] w (ChosenPost w (pickF p s (irange n)) 0) := by
  have hn : n ≤ 4096 := by
    unfold solveF at hs
    by_cases hn : n ≤ 4096 ∧ m ≤ 4096
    · exact hn.1
    · rw [if_neg hn] at hs; cases hs
  have hb0 := below_alloc (Below.refl w.heap.size w) (.cells #[.int .i64 n, v1, .slice A2 m c2, v3] 25 (0, 0))
  have HG := Aside0.mk (hG _ hb0)
  have HI := Aside0.mk (hI.below hb0)
  have HS := Aside0.mk hs
  have HP := Aside0.mk hp.2
  have HB := Aside0.mk hb0
  have E := hp.1
  obtain ⟨g0, hg0⟩ : ∃ g0, g0 = w.heap.size := ⟨_, rfl⟩
  have HW := Aside0.mk (show (w.alloc (.cells #[.int .i64 n, v1, .slice A2 m c2, v3] 25 (0, 0))).heap[g0]? = some (.cells #[.int .i64 n, v1, .slice A2 m c2, v3] 25 (0, 0)) by rw [hg0]; exact blk_new w _)
  obtain ⟨wb, hwb⟩ : ∃ wb, wb = w := ⟨_, rfl⟩
  have HE := Aside0.mk (And.intro hg0 hwb)
  clear hG hI hs hp hb0 hg0 hwb
  go_enter Try.func19, Try.ntmps19
  go_wp2_with fail
  refine HG.out.mono ?_
  rintro e w1 ⟨rfl, hb⟩
  have HB1 := Aside0.mk (below_step HB.out hb)
  have HI1 := Aside0.mk (HI.out.below hb)
  have HW1 := Aside0.mk (blk_below HW.out hb)
  obtain ⟨hg0, hwb⟩ := HE.out
  rw [← hg0]
  clear hb HG HB HI HW hg0 hwb HE
  have c0 : w1.cell? ⟨g0, 0, none⟩ = some (.int .i64 n) := blk_cell HW1.out 0
  have c1 : w1.cell? ⟨g0, 1, none⟩ = some v1 := blk_cell HW1.out 1
  have c2' : w1.cell? ⟨g0, 2, none⟩ = some (.slice A2 m c2) := blk_cell HW1.out 2
  have c3 : w1.cell? ⟨g0, 3, none⟩ = some v3 := blk_cell HW1.out 3
  go_wp2_with fail
  refine (solve_calls HI1.out HS.out).mono ?_
  rintro e w2 ⟨w0, ℓ, B, vt, vi, vr, rfl, hS, hb1, hb2⟩
  have HS2 := Aside0.mk (Slvd.mk hS)
  have HB2 := Aside0.mk (below_step HB1.out hb2)
  have HW2 := Aside0.mk (blk_below HW1.out hb2)
  clear hS hb1 hb2 HB1 HI1 HW1 c0 c1 c2' c3 HS
  have c0 : w2.cell? ⟨g0, 0, none⟩ = some (.int .i64 n) := blk_cell HW2.out 0
  have hz := HB2.out.size
  clear HW2
  have HE := Aside0.mk (show pickF p s (irange n) = pickF p s (irange n) from rfl)
  go_wp2_with fail
  go_loopw [10, 23] (fun v10 v23 wr => ∃ (j : Nat) (acc : List Int), v23 = .int .i64 j ∧ j ≤ n ∧ acc.length ≤ j ∧ Aside0 (acc ++ pickF p s ((irange n).drop j) = pickF p s (irange n)) ∧ Aside0 (Kd.R (Kd.int .i64) 3 wr w2.heap.size (fun _ => True) v10 acc) ∧ Aside0 (Below w2.heap.size w2 wr)) (fun _ v23 _ => n - (intOf v23).toNat)
  case atStart => exact ⟨0, [], rfl, Nat.zero_le _, Nat.le_refl _, ⟨by rw [List.drop_zero]; rfl⟩, ⟨Kd.R_nil _ _ _ _ _⟩, ⟨Below.refl _ _⟩⟩
  case round =>
    clear c0 HE
    obtain ⟨j, acc, rfl, hj, hacc, HF, HR, HB⟩ := hrel
    by_cases hlt : j < n
    · have hf := HF.out
      rw [irange_drop hlt] at hf
      have HK := Aside0.mk (HP.out w0 wr ℓ B n m _ vt vi vr s j (HS2.out.below HB.out) (by omega) (by omega))
      by_cases hp : p s j = true
      · have HF1 := Aside0.mk (pickF_snoc hp hf)
        rw [hp] at HK
        clear HF hf hp
        obtain ⟨As, cs, eS⟩ := Kd.R_slice HR.out
        subst eS
        have hbs := HB.out.size
        go_wp2_with fail
        refine HK.out.mono ?_
        rintro e w' ⟨rfl, rfl⟩
        clear HK
        go_wp2_with (at_builtin; refine Kd.R_append (Kd.int .i64) (w0 := w2) w2.heap.size rfl (.tmp 30) (.tmp 32) 26 3 (.int .i64 0) 8 rfl Try.underlying26 infoI rfl (by decide) (by omega) (.slice As acc.length cs) acc (j : Int) [.int .i64 (j : Int)] (fun _ => True) (fun _ => False) rfl rfl rfl (fun _ h => h.elim) (fun _ _ => trivial) HR.out HB.out hbs (by omega) ?_; intro v1 w3 hR hB hg hat; have HR3 := Aside0.mk hR; have HB3 := Aside0.mk hB; clear hR hB hg hat)
        go_roundw
        case rel => exact ⟨j + 1, _, by go_num, by omega, by simp; omega, HF1, HR3, HB3⟩
        case measure => simp [intOf]; omega
      · have hp := Bool.eq_false_iff.2 hp
        have HF1 := Aside0.mk (pickF_skip hp hf)
        rw [hp] at HK
        clear HF hf hp
        go_wp2_with fail
        refine HK.out.mono ?_
        rintro e w' ⟨rfl, rfl⟩
        clear HK
        go_wp2_with fail
        go_roundw
        case rel => exact ⟨j + 1, _, by go_num, by omega, by omega, HF1, HR, HB⟩
        case measure => simp [intOf]; omega
    · have hf := HF.out
      rw [List.drop_of_length_le (by rw [irange_len]; omega)] at hf
      simp only [pickF, List.append_nil] at hf
      have HF1 := Aside0.mk hf
      clear hf HF
      go_wp2_with fail
      go_ret2
      exact ⟨_, rfl, by rw [← HF1.out]; exact Kd.R_lower HR.out hz, below_step HB2.out HB.out⟩
theorem chosen_any (w : World) (n m : Nat) (v1 v3 : Value) (A2 : Option Addr) (c2 : Nat) (Af : Option Addr) (cf : Nat) (fs : List Int) (kd hd : Int → Int) (bd : Int → List Int) (hI : ThyIn w n m A2 kd hd bd Af fs) (pf : Nat) (p : SV → Int → Bool) (hp : PickP pf p) (g : Int)
    (hG : ∀ W, Below w.heap.size w W → Calls Try.prog 27 #[.agg #[.int .i64 n, v1, .slice A2 m c2, v3], .slice Af fs.length cf] W fun e w' => e = .returned (.int .i64 g) ∧ Below W.heap.size W w')
    (r : List Int) (x : Int) (h : (if g = 0 then (solveF n m kd hd bd fs).bind fun s => some (pickF p s (irange n), 0) else some ([], g)) = some (r, x)) :
    Calls Try.prog 19 #[.agg #[.int .i64 n, v1, .slice A2 m c2, v3], .slice Af fs.length cf, .func (.func pf) #[] #[]] w (ChosenPost w r x) := by
  by_cases hg : g = 0
  · subst hg
    rw [if_pos rfl] at h
    obtain ⟨s, hs, h⟩ := Option.bind_eq_some_iff.1 h
    cases h
    exact chosen_good w n m v1 v3 A2 c2 Af cf fs kd hd bd hI pf p hp hG s hs
  · rw [if_neg hg] at h
    cases h
    exact chosen_bad w _ v1 _ v3 Af cf fs g hg pf hG
set_option maxHeartbeats 1000000 in
theorem plus_of (w : World) (v0 v1 v2 v3 vf : Value) (r : List Int) (x : Int) (hC : ∀ W, Below w.heap.size w W → Calls Try.prog 19 #[.agg #[v0, v1, v2, v3], vf, .func (.func 20) #[] #[]] W (ChosenPost W r x)) :
    Calls Try.prog 9 #[.agg #[v0, v1, v2, v3], vf] w (ChosenPost w r x) := by
  have hb := below_alloc (Below.refl w.heap.size w) (.cells #[v0, v1, v2, v3] 25 (0, 0))
  have HC := Aside0.mk (hC _ hb)
  have HB := Aside0.mk hb
  clear hC hb
  go_enter Try.func9, Try.ntmps9
  go_wp2_with fail
  refine HC.out.mono ?_
  rintro e w' ⟨v, rfl, hR, hB⟩
  have HR := Aside0.mk (Kd.R_lower hR HB.out.size)
  have HB2 := Aside0.mk (below_step HB.out hB)
  clear hR hB HC HB
  go_wp2_with fail
  go_ret2
  exact ⟨_, rfl, HR.out, HB2.out⟩
set_option maxHeartbeats 1000000 in
theorem minus_of (w : World) (v0 v1 v2 v3 vf : Value) (r : List Int) (x : Int) (hC : ∀ W, Below w.heap.size w W → Calls Try.prog 19 #[.agg #[v0, v1, v2, v3], vf, .func (.func 21) #[] #[]] W (ChosenPost W r x)) :
    Calls Try.prog 10 #[.agg #[v0, v1, v2, v3], vf] w (ChosenPost w r x) := by
  have hb := below_alloc (Below.refl w.heap.size w) (.cells #[v0, v1, v2, v3] 25 (0, 0))
  have HC := Aside0.mk (hC _ hb)
  have HB := Aside0.mk hb
  clear hC hb
  go_enter Try.func10, Try.ntmps10
  go_wp2_with fail
  refine HC.out.mono ?_
  rintro e w' ⟨v, rfl, hR, hB⟩
  have HR := Aside0.mk (Kd.R_lower hR HB.out.size)
  have HB2 := Aside0.mk (below_step HB.out hB)
  clear hR hB HC HB
  go_wp2_with fail
  go_ret2
  exact ⟨_, rfl, HR.out, HB2.out⟩
set_option maxHeartbeats 1000000 in
theorem neither_of (w : World) (v0 v1 v2 v3 vf : Value) (r : List Int) (x : Int) (hC : ∀ W, Below w.heap.size w W → Calls Try.prog 19 #[.agg #[v0, v1, v2, v3], vf, .func (.func 22) #[] #[]] W (ChosenPost W r x)) :
    Calls Try.prog 12 #[.agg #[v0, v1, v2, v3], vf] w (ChosenPost w r x) := by
  have hb := below_alloc (Below.refl w.heap.size w) (.cells #[v0, v1, v2, v3] 25 (0, 0))
  have HC := Aside0.mk (hC _ hb)
  have HB := Aside0.mk hb
  clear hC hb
  go_enter Try.func12, Try.ntmps12
  go_wp2_with fail
  refine HC.out.mono ?_
  rintro e w' ⟨v, rfl, hR, hB⟩
  have HR := Aside0.mk (Kd.R_lower hR HB.out.size)
  have HB2 := Aside0.mk (below_step HB.out hB)
  clear hR hB HC HB
  go_wp2_with fail
  go_ret2
  exact ⟨_, rfl, HR.out, HB2.out⟩
end Go.Proofs.Ythlmpioijjnmnaa.P
