/- Strict proof: the facts that a first proof rests on. -/
import Derived.Test.YthlmpioijjnmnaaSlvL
namespace Go.Proofs.Ythlmpioijjnmnaa.P
open Go.RowKit Go.Proofs.YthlmpioijjnmnaaW.PrintWords Go.Proofs.YthlmpioijjnmnaaW.PrintLast Go.Proofs.YthlmpioijjnmnaaW.PrintMore Go.Proofs.Ythlmpioijjnmnaa.K
set_option linter.unusedVariables false
set_option linter.unusedSimpArgs false

def earlyV (s : SV) (q b : Int) : Bool := !gb s.plus b || decide (ga s.hgt b ≥ ga s.hgt q)
theorem least_fn1 {w0 W : World} {ℓ : Nat → Nat} {B : SvB} {n m : Nat} {T : TV} {vt : Value} {vi vr : List Value} {s : SV} {b8 bq : Nat} {q : Int} (hS : Slvd w0 W ℓ B n m T vt vi vr s) (hb : W.heap[b8]? = some (.cells #[.pointer (some ⟨B.gs, 0, none⟩)] 44 (0, 0))) (hq : W.heap[bq]? = some (.cells #[.int .i64 q] 3 (0, 0))) (q0 : 0 ≤ q) (q1 : q < n) {xs : List Int} (hx : ∀ x, x ∈ xs → 0 ≤ x ∧ x < n) :
    FnP 29 #[.pointer (some ⟨b8, 0, none⟩), .pointer (some ⟨bq, 0, none⟩)] (earlyV s q) xs W := by
  refine ⟨fun args W => enters_ Try.func29 (by kernel_rfl) rfl args W, fun W' hB x hm => ?_⟩
  obtain ⟨h0, h1⟩ := hx x hm
  obtain ⟨_, _, _, _, _, _, _, _, _, _, c10, _, c12, _⟩ := (hS.below hB).st.cells
  have d := (hS.below hB).st.atPl h0 h1
  have d2 := (hS.below hB).st.atHe h0 h1
  have d3 := (hS.below hB).st.atHe q0 q1
  have k : W'.cell? ⟨b8, 0, none⟩ = some (.pointer (some ⟨B.gs, 0, none⟩)) := blk_cell (blk_below hb hB) 0
  have kq : W'.cell? ⟨bq, 0, none⟩ = some (.int .i64 q) := blk_cell (blk_below hq hB) 0
  clear hS hb hx hm hB hq
  unfold earlyV
  generalize gb s.plus x = a at d ⊢
  generalize ga s.hgt x = y at d2 ⊢
  generalize ga s.hgt q = z at d3 ⊢
  cases a
  all_goals
    go_enter Try.func29, Try.ntmps29
    go_upto_region 1 with fail
    repeat (go_quiet (fail))
    go_wp2_with fail
    go_ret
    exact ⟨rfl, pw_below_drewN (Below.refl _ _) _⟩
theorem least_fn2 {w w0 W : World} {ℓ : Nat → Nat} {B : SvB} {n m : Nat} {v1 v3 : Value} {A2 : Option Addr} {c2 : Nat} {kd hd : Int → Int} {bd : Int → List Int} {Af : Option Addr} {fs : List Int} {vt : Value} {vi vr : List Value} {s : SV} {g0 b8 bq be : Nat} {q : Int} (hL : LookAt w W w0 ℓ B n m v1 v3 A2 c2 kd hd bd Af fs vt vi vr s g0 b8)
    (hq : W.heap[bq]? = some (.cells #[.int .i64 q] 3 (0, 0))) (he : W.heap[be]? = some (.cells #[.func (.func 29) #[] #[.pointer (some ⟨b8, 0, none⟩), .pointer (some ⟨bq, 0, none⟩)]] 51 (0, 0))) (q0 : 0 ≤ q) (q1 : q < n) {xs : List Int} (hx : ∀ r, r ∈ xs → (0 ≤ r ∧ r < m) ∧ ∀ b, b ∈ bd r → 0 ≤ b ∧ b < n) :
    FnP 30 #[.pointer (some ⟨g0, 0, none⟩), .pointer (some ⟨be, 0, none⟩)] (fun r => !(bd r).any (earlyV s q)) xs W := by
  refine ⟨fun args W => enters_ Try.func30 (by kernel_rfl) rfl args W, fun W' hB r hm => ?_⟩
  obtain ⟨⟨r0, r1⟩, hbb⟩ := hx r hm
  have hL' := hL.below hB
  have hq' := blk_below hq hB
  obtain ⟨ad2, Ab, cb, hA2, _, _, h2, h3⟩ := hL'.thy.rules r r0 r1
  have k2 : W'.cell? ⟨g0, 2, none⟩ = some (.slice A2 m c2) := blk_cell hL'.box 2
  rw [hA2] at k2
  have ke : W'.cell? ⟨be, 0, none⟩ = some (.func (.func 29) #[] #[.pointer (some ⟨b8, 0, none⟩), .pointer (some ⟨bq, 0, none⟩)]) := blk_cell (blk_below he hB) 0
  have HC := Aside0.mk h3
  have HL := Aside0.mk hL'
  have HQ := Aside0.mk hq'
  have HX := Aside0.mk hbb
  have hmx := Kd.C_max h3
  show Calls _ _ _ _ fun e W'' => e = .returned (.bool (!(bd r).any (earlyV s q))) ∧ Below W'.heap.size W' W''
  generalize hbs : bd r = bs at h2 h3 HC HX ⊢
  clear hbs hL hL' hq hq' he hx hm hB h3 hA2 hbb
  go_enter Try.func30, Try.ntmps30
  go_upto_region 1 with fail
  refine start_ (n := 10) (S := fun w' => w'.cell? ⟨g0, 2, none⟩ = some (.slice (some ad2) m c2) ∧ w'.cell? ⟨(ad2.add (r.toNat * 3)).block, (ad2.add (r.toNat * 3)).off + 2, none⟩ = some (.slice Ab bs.length cb) ∧ w'.cell? ⟨be, 0, none⟩ = some (.func (.func 29) #[] #[.pointer (some ⟨b8, 0, none⟩), .pointer (some ⟨bq, 0, none⟩)])) (ds := [7]) #[false, false, false, false, false, false, false, false, false, false] (by kernel_rfl) rfl rfl (⟨k2, h2, ke⟩) (fun hHeld => ?_)
  refine pure_ (i := 0) (N := some 5) (v := ?_) (a' := ?_) #[true, false, false, false, false, false, false, false, false, false] rfl rfl (by kernel_rfl) (fun _ _ _ h => h) (Or.inl ⟨by rfl, ?_⟩) ?_ ?_
  rotate_left
  · intro w'
    go_simp
    with_reducible rfl
  rotate_left
  · simp only [Act.put, List.setIfInBounds_toArray, List.set_cons_zero, List.set_cons_succ, i64_w, i32_w]
    rfl
  refine pure_ (i := 2) (N := some 7) (v := ?_) (a' := ?_) #[true, false, true, false, false, false, false, false, false, false] rfl rfl (by kernel_rfl) (fun _ _ _ h => h) (Or.inl ⟨by rfl, ?_⟩) ?_ ?_
  rotate_left
  · intro w'
    go_simp
    with_reducible rfl
  rotate_left
  · simp only [Act.put, List.setIfInBounds_toArray, List.set_cons_zero, List.set_cons_succ, i64_w, i32_w]
    rfl
  refine take_ (i := 1) (N := some 6) (v := ?_) (a' := ?_) #[true, true, true, false, false, false, false, false, false, false] rfl rfl (by kernel_rfl) (fun _ _ _ h => h) (Or.inl ⟨by rfl, ?_⟩) hHeld ?_ ?_
  rotate_left
  · rintro w' ⟨s0, s1, s2⟩
    go_simp
    with_reducible rfl
  rotate_left
  · simp only [Act.put, List.setIfInBounds_toArray, List.set_cons_zero, List.set_cons_succ, i64_w, i32_w]
    rfl
  refine pure_ (i := 3) (N := some 8) (v := ?_) (a' := ?_) #[true, true, true, true, false, false, false, false, false, false] rfl rfl (by kernel_rfl) (fun _ _ _ h => h) (Or.inl ⟨by rfl, ?_⟩) ?_ ?_
  rotate_left
  · intro w'
    go_simp
    with_reducible rfl
  rotate_left
  · simp only [Act.put, List.setIfInBounds_toArray, List.set_cons_zero, List.set_cons_succ, i64_w, i32_w]
    rfl
  refine pure_ (i := 4) (N := some 9) (v := ?_) (a' := ?_) #[true, true, true, true, true, false, false, false, false, false] rfl rfl (by kernel_rfl) (fun _ _ _ h => h) (Or.inl ⟨by rfl, ?_⟩) ?_ ?_
  rotate_left
  · intro w'
    go_simp
    with_reducible rfl
  rotate_left
  · simp only [Act.put, List.setIfInBounds_toArray, List.set_cons_zero, List.set_cons_succ, i64_w, i32_w]
    rfl
  refine take_ (i := 5) (N := some 10) (v := ?_) (a' := ?_) #[true, true, true, true, true, true, false, false, false, false] rfl rfl (by kernel_rfl) (fun _ _ _ h => h) (Or.inl ⟨by rfl, ?_⟩) hHeld ?_ ?_
  rotate_left
  · rintro w' ⟨s0, s1, s2⟩
    go_simp
    with_reducible rfl
  rotate_left
  · simp only [Act.put, List.setIfInBounds_toArray, List.set_cons_zero, List.set_cons_succ, i64_w, i32_w]
    rfl
  refine take_ (i := 6) (N := some 11) (v := ?_) (a' := ?_) #[true, true, true, true, true, true, true, false, false, false] rfl rfl (by kernel_rfl) (fun _ _ _ h => h) (Or.inl ⟨by rfl, ?_⟩) hHeld ?_ ?_
  rotate_left
  · rintro w' ⟨s0, s1, s2⟩
    go_simp
    with_reducible rfl
  rotate_left
  · simp only [Act.put, List.setIfInBounds_toArray, List.set_cons_zero, List.set_cons_succ, i64_w, i32_w]
    rfl
  refine last_ (i := 7) (N := some 12) #[true, true, true, true, true, true, true, true, false, false] rfl rfl (by kernel_rfl) (by decide) (fun K hK => ?_)
  refine call_ 31 #[.slice Ab bs.length cb, .func (.func 29) #[] #[.pointer (some ⟨b8, 0, none⟩), .pointer (some ⟨bq, 0, none⟩)]] (by rfl) rfl ?_ ?_
  · go_simp
  have hdr := below_drew (Below.refl W'.heap.size W')
  have HLd := HL.out.below hdr
  refine (containsFunc_any 29 #[.pointer (some ⟨b8, 0, none⟩), .pointer (some ⟨bq, 0, none⟩)] (earlyV s q) Ab cb bs _ (Kd.C_below HC.out hdr) (least_fn1 HLd.st HLd.ptr (blk_below HQ.out hdr) q0 q1 HX.out)).mono ?_
  rintro e w9 ⟨rfl, hb⟩
  refine ⟨_, rfl, ?_⟩
  have h5 := below_step hdr hb
  have HB9 := Aside0.mk h5
  refine hK.out _ _ ?_
  clear hK K
  refine norm_ (a' := ?_) ?_ ?_
  rotate_left
  · show Act.put _ (some 12) _ = _
    simp only [Act.put, List.setIfInBounds_toArray, List.set_cons_zero, List.set_cons_succ, i64_w, i32_w]
    rfl
  clear hb hdr HLd h5
  refine pure_ (i := 8) (N := some 13) (v := ?_) (a' := ?_) #[true, true, true, true, true, true, true, true, true, false] rfl rfl (by kernel_rfl) (fun _ _ _ h => h) (Or.inl ⟨by rfl, ?_⟩) ?_ ?_
  rotate_left
  · intro w'
    go_simp
    with_reducible rfl
  rotate_left
  · simp only [Act.put, List.setIfInBounds_toArray, List.set_cons_zero, List.set_cons_succ, i64_w, i32_w]
    rfl
  refine pure_ (i := 9) (N := some 4) (v := ?_) (a' := ?_) #[true, true, true, true, true, true, true, true, true, true] rfl rfl (by kernel_rfl) (fun _ _ _ h => h) (Or.inl ⟨by rfl, ?_⟩) ?_ ?_
  rotate_left
  · intro w'
    go_simp
    with_reducible rfl
  rotate_left
  · simp only [Act.put, List.setIfInBounds_toArray, List.set_cons_zero, List.set_cons_succ, i64_w, i32_w]
    rfl
  refine done_ (by kernel_rfl) ?_
  as_aux_lemma =>
  go_wp2_with fail
  go_ret
  exact ⟨rfl, HB9.out⟩
/-- Of a body, what is not there yet. -/
def putV (n : Nat) : List Int → List Bool → List Int → Option (List Bool × List Int)
  | [], inn, td => some (inn, td)
  | b :: bs, inn, td => if (0 ≤ b ∧ b < n) ∧ td.length < 1000000 then (if gb inn b = true then putV n bs inn td else putV n bs (inn.set b.toNat true) (td ++ [b])) else none
def restV (s : SV) (bd : Int → List Int) (q : Int) : Int := idxF (fun r => !(bd r).any (earlyV s q)) (s.rls.getD q.toNat []) 0
def leastV (n m : Nat) (bd : Int → List Int) (s : SV) : Nat → List Bool → List Int → Nat → Option (List Bool)
  | 0, _, _, _ => none
  | k + 1, inn, td, i =>
    if i < td.length then
      if (0 ≤ rd td i ∧ rd td i < n) ∧ td.length < 1000000 then
        if gb s.fact (rd td i) = true then leastV n m bd s k inn td (i + 1) else
          if (∀ r, r ∈ s.rls.getD (rd td i).toNat [] → (0 ≤ r ∧ r < m) ∧ ∀ b, b ∈ bd r → 0 ≤ b ∧ b < n) ∧ 0 ≤ restV s bd (rd td i) ∧ restV s bd (rd td i) < (s.rls.getD (rd td i).toNat []).length then
            (putV n (bd (rd (s.rls.getD (rd td i).toNat []) (restV s bd (rd td i)))) inn td).bind fun p => leastV n m bd s k p.1 p.2 (i + 1)
          else none
      else none
    else some inn
section
variable (w : World) (n m : Nat) (v1 v3 : Value) (A2 : Option Addr) (c2 : Nat) (Af : Option Addr) (cf : Nat) (fs : List Int) (kd hd : Int → Int) (bd : Int → List Int) (g : Int)
set_option maxHeartbeats 1000000 in
theorem least_bad (v0 v2 : Value) (lit x : Int) (hx : x ≠ 0) (hO : ∀ W, Below w.heap.size w W → Calls Try.prog 23 #[.agg #[v0, v1, v2, v3], .slice Af fs.length cf, .int .i64 lit] W fun e w' => e = .returned (.tuple #[.pointer none, .int .i64 x]) ∧ Below W.heap.size W w') :
    Calls Try.prog 16 #[.agg #[v0, v1, v2, v3], .slice Af fs.length cf, .int .i64 lit] w (ChosenPost w [] x) := by
  have HG := Aside0.mk (hO _ (below_alloc (Below.refl _ _) (.cells #[v0, v1, v2, v3] 25 (0, 0))))
  have HB := Aside0.mk (below_alloc (Below.refl w.heap.size w) (.cells #[v0, v1, v2, v3] 25 (0, 0)))
  have t1 : (x != 0) = true := by simpa using hx
  clear hO hx
  go_enter Try.func16, Try.ntmps16
  go_wp2_with fail
  refine HG.out.mono ?_
  rintro e w1 ⟨rfl, hb⟩
  have HB1 := Aside0.mk (below_alloc (below_step HB.out hb) (.cells #[.pointer none] 44 (0, 0)))
  clear hb HG HB
  go_wp2_with fail
  go_ret2
  exact ⟨_, rfl, Kd.R_nil _ _ _ _ _, HB1.out⟩
set_option maxHeartbeats 4000000 in
set_option maxRecDepth 100000 in
theorem least_good (lit : Int) (hl0 : 0 ≤ lit) (hl1 : lit < n) (hI : ThyIn w n m A2 kd hd bd Af fs) (hG : ∀ W, Below w.heap.size w W → Calls Try.prog 27 #[.agg #[.int .i64 n, v1, .slice A2 m c2, v3], .slice Af fs.length cf] W fun e w' => e = .returned (.int .i64 0) ∧ Below W.heap.size W w')
    (s : SV) (hs : solveF n m kd hd bd fs = some s) (fu : Nat) (r : List Int) (x : Int) (h : (if gb s.plus lit = true then (leastV n m bd s fu ((List.replicate n false).set lit.toNat true) [lit] 0).bind fun fin => some (pickF (fun s q => gb fin q && gb s.fact q) s (irange n), 0) else some ([], (203 : Int))) = some (r, x)) :
    Calls Try.prog 16 #[.agg #[.int .i64 n, v1, .slice A2 m c2, v3], .slice Af fs.length cf, .int .i64 lit] w (ChosenPost w r x) := by
  have hn : n ≤ 4096 := by
    unfold solveF at hs
    by_cases hn : n ≤ 4096 ∧ m ≤ 4096
    · exact hn.1
    · rw [if_neg hn] at hs; cases hs
  have MB := fun w => mk_run (P := Try.prog) 31 4 (.bool false) 1 Try.underlying31 infoB rfl n (by omega) (by omega) w
  have hb0 := below_alloc (Below.refl w.heap.size w) (.cells #[.int .i64 n, v1, .slice A2 m c2, v3] 25 (0, 0))
  have HI := Aside0.mk (hI.below hb0)
  have HO := Aside0.mk (one_good _ n m v1 v3 A2 c2 Af cf fs kd hd bd lit hl0 hl1 HI.out (fun W hW => hG W (below_step hb0 hW)) s hs)
  have HB := Aside0.mk hb0
  obtain ⟨g0, hg0⟩ : ∃ g0, g0 = w.heap.size := ⟨_, rfl⟩
  have HW := Aside0.mk (show (w.alloc (.cells #[.int .i64 n, v1, .slice A2 m c2, v3] 25 (0, 0))).heap[g0]? = some (.cells #[.int .i64 n, v1, .slice A2 m c2, v3] 25 (0, 0)) by rw [hg0]; exact blk_new w _)
  have HE := Aside0.mk hg0
  have H := Aside0.mk h
  clear hG hI hs hb0 hg0 h
  go_enter Try.func16, Try.ntmps16
  go_wp2_with fail
  refine HO.out.mono ?_
  rintro e w1 ⟨w0, ℓ, B, vt, vi, vr, rfl, hS, hb⟩
  have hb2 := below_alloc (Below.refl w1.heap.size w1) (.cells #[.pointer (some ⟨B.gs, 0, none⟩)] 44 (0, 0))
  have hq : LookAt w (w1.alloc (.cells #[.pointer (some ⟨B.gs, 0, none⟩)] 44 (0, 0))) w0 ℓ B n m v1 v3 A2 c2 kd hd bd Af fs vt vi vr s g0 w1.heap.size := ⟨hS.below hb2, (HI.out.below hb).below hb2, blk_below (blk_below HW.out hb) hb2, blk_new w1 _, below_step (below_step HB.out hb) hb2⟩
  obtain ⟨b8, hb8⟩ : ∃ b8, b8 = w1.heap.size := ⟨_, rfl⟩
  rw [← hb8] at hq
  have HQ := Aside0.mk hq
  have HE8 := Aside0.mk hb8
  have hg0 := HE.out
  rw [← hg0]
  clear hb hb2 hb8 hS HO HB HI HW hg0 HE hq
  go_upto_region 2 with fail
  have hb8 := HE8.out
  rw [← hb8]
  clear hb8 HE8
  generalize w1.alloc (.cells #[.pointer (some ⟨B.gs, 0, none⟩)] 44 (0, 0)) = w2 at HQ ⊢
  as_aux_lemma =>
  obtain ⟨_, _, _, _, _, _, _, _, _, _, c10, _⟩ := HQ.out.st.st.cells
  have dpl := HQ.out.st.st.atPl hl0 hl1
  have k8 : w2.cell? ⟨b8, 0, none⟩ = some (.pointer (some ⟨B.gs, 0, none⟩)) := blk_cell HQ.out.ptr 0
  have h := H.out
  clear H
  by_cases hp : gb s.plus lit = true
  rotate_left
  · rw [if_neg hp] at h
    cases h
    rw [Bool.eq_false_iff.2 hp] at dpl
    clear hp
    go_wp2_with fail
    go_ret2
    exact ⟨_, rfl, Kd.R_nil _ _ _ _ _, HQ.out.old⟩
  rw [if_pos hp] at h
  obtain ⟨fin, hfin, h'⟩ := Option.bind_eq_some_iff.1 h
  clear h
  cases h'
  rw [hp] at dpl
  have HV := Aside0.mk hfin
  clear hp hfin
  have c0 : w2.cell? ⟨g0, 0, none⟩ = some (.int .i64 n) := blk_cell HQ.out.box 0
  have E2 := Aside0.mk (show (w2.alloc (.cells (Array.replicate n (.bool false)) 4 (0, 0))).heap[w2.heap.size]? = some (.cells (bls (List.replicate n false)) 4 (0, 0)) by
    have := blk_new w2 (.cells (Array.replicate n (.bool false)) 4 (0, 0))
    simpa [bls, bools] using this)
  have HB2 := Aside0.mk (below_alloc (Below.refl w2.heap.size w2) (.cells (Array.replicate n (.bool false)) 4 (0, 0)))
  obtain ⟨gn, hgn⟩ : ∃ gn, gn = w2.heap.size := ⟨_, rfl⟩
  have HZ0 := Aside0.mk (show (w2.alloc (.cells (Array.replicate n (.bool false)) 4)).heap.size = gn + 1 by rw [hgn]; exact Array.size_push ..)
  have HGN := Aside0.mk hgn
  go_upto_region 7 with fail
  clear c0 MB dpl k8 c10
  rw [← hgn] at E2 ⊢
  have E2 : Aside0 ((w2.alloc (.cells (Array.replicate n (.bool false)) 4)).heap[gn]? = some (.cells (bls (List.replicate n false)) 4 (0, 0))) := E2
  have HB2 : Aside0 (Below w2.heap.size w2 (w2.alloc (.cells (Array.replicate n (.bool false)) 4))) := HB2
  clear hgn
  generalize w2.alloc (.cells (Array.replicate n (.bool false)) 4) = w3 at E2 HB2 HZ0 ⊢
  as_aux_lemma =>
  have hz := HZ0.out
  have HR := Aside0.mk (R_blkI (l := [lit]) (base := w2.heap.size) (ok := fun b => b ≠ gn) (blk_new w3 (.cells (ints [lit]) 3 (0, 0))) (by have := HGN.out; omega) (by simp) (by omega))
  have hb3 := below_alloc (Below.refl w3.heap.size w3) (.cells #[.int .i64 lit] 3 (0, 0))
  have E3 := Aside0.mk (blk_below E2.out hb3)
  have HB3 := Aside0.mk (below_step HB2.out hb3)
  clear hb3 hz E2 HB2
  go_upto_region 8 with fail
  have HR : Aside0 (Kd.R (Kd.int .i64) 3 (w3.alloc (.cells #[.int .i64 lit] 3 (0, 0))) w2.heap.size (fun b => b ≠ gn) (.slice (some ⟨w3.heap.size, 0, none⟩) 1 1) [lit]) := HR
  generalize Value.slice (some ⟨w3.heap.size, 0, none⟩) 1 1 = v11 at HR ⊢
  generalize w3.alloc (.cells #[.int .i64 lit] 3 (0, 0)) = w4 at E3 HB3 HR ⊢
  clear HZ0
  as_aux_lemma =>
  have dse : w4.cell? ⟨gn, lit.toNat, none⟩ = some (.bool (gb (List.replicate n false) lit)) := (blk_cell E3.out _).trans (bls_at hl0 (by rw [List.length_replicate]; exact hl1))
  have fse := blk_frozen E3.out lit.toNat
  have hge : w2.heap.size ≤ gn := by have := HGN.out; omega
  have hset := below_set (j := lit.toNat) (v := .bool true) HB3.out hge
  have E4 := Aside0.mk (show (w4.setCell ⟨gn, lit.toNat, none⟩ (.bool true)).heap[gn]? = some (.cells (bls ((List.replicate n false).set lit.toNat true)) 4 (0, 0)) by have := blk_set E3.out lit.toNat (.bool true); rwa [bls_set] at this)
  have HR4 := Aside0.mk (Kd.R_far HR.out (p := ⟨gn, lit.toNat, none⟩) (fun k hk => hk) (.bool true))
  have HB4 := Aside0.mk hset
  clear hset E3 HR HB3 hge
  go_upto_region 9 with fail
  clear dse fse
  generalize w4.setCell ⟨gn, lit.toNat, none⟩ (.bool true) = w5 at E4 HR4 HB4 ⊢
  as_aux_lemma =>
  have HGE := Aside0.mk (show w2.heap.size ≤ gn by have := HGN.out; omega)
  have HQd := Aside0.mk (HQ.out.below (Below.refl _ _))
  clear HGN
  go_wp2_with fail
  go_loopg [11, 12] fu (fun kq v11 v12 wr => ∃ (td : List Int) (i : Nat) (inn : List Bool), v12 = .int .i64 i ∧ Aside0 (leastV n m bd s kq inn td i = some fin) ∧ Aside0 (kq ≤ fu) ∧ Aside0 (inn.length = n) ∧ Aside0 (wr.heap[gn]? = some (.cells (bls inn) 4 (0, 0))) ∧ Aside0 (Kd.R (Kd.int .i64) 3 wr w2.heap.size (fun b => b ≠ gn) v11 td) ∧ Aside0 (Below w2.heap.size w2 wr))
  case atStart => exact ⟨[lit], 0, (List.replicate n false).set lit.toNat true, rfl, HV, ⟨Nat.le_refl _⟩, ⟨by simp⟩, E4, HR4, HB4⟩
  case round =>
    clear HV E4 HR4 HB4
    obtain ⟨td, i, inn, rfl, HV, HK, HSL, E2, HR, HB⟩ := hrel
    cases gk with
    | zero => exact absurd HV.out (by simp [leastV])
    | succ k2 =>
      as_aux_lemma =>
      have hv := HV.out
      simp only [leastV] at hv
      obtain ⟨As, cs, eS⟩ := Kd.R_slice HR.out
      subst eS
      have l4 := (Kd.R_reads' HR.out).2.2
      have hmx := Kd.C_max l4
      by_cases hlt : i < td.length
      rotate_left
      · rw [if_neg hlt] at hv
        cases hv
        obtain ⟨wx, rfl⟩ : ∃ wx : World, wx = wr := ⟨_, rfl⟩
        have HQx := Aside0.mk (HQ.out.below HB.out)
        have c0 : wx.cell? ⟨g0, 0, none⟩ = some (.int .i64 n) := blk_cell HQx.out.box 0
        have HZ := Aside0.mk HB.out.size
        have HE := Aside0.mk (show pickF (fun s q => gb fin q && gb s.fact q) s (irange n) = pickF (fun s q => gb fin q && gb s.fact q) s (irange n) from rfl)
        clear HV HK HR HB HQ l4 HGE HQd
        go_wp2_with fail
        clear c0 hmx hlt
        go_loopw [18, 108] (fun v18 v108 wr => ∃ (j : Nat) (acc : List Int), v108 = .int .i64 j ∧ j ≤ n ∧ acc.length ≤ j ∧ Aside0 (acc ++ pickF (fun s q => gb fin q && gb s.fact q) s ((irange n).drop j) = pickF (fun s q => gb fin q && gb s.fact q) s (irange n)) ∧ Aside0 (Kd.R (Kd.int .i64) 3 wr wx.heap.size (fun _ => True) v18 acc) ∧ Aside0 (Below wx.heap.size wx wr)) (fun _ v108 _ => n - (intOf v108).toNat)
        case atStart => exact ⟨0, [], rfl, Nat.zero_le _, Nat.le_refl _, ⟨by rw [List.drop_zero]; rfl⟩, ⟨Kd.R_nil _ _ _ _ _⟩, ⟨Below.refl _ _⟩⟩
        case round =>
          clear HE
          obtain ⟨j, acc, rfl, hj, hacc, HF, HR, HB⟩ := hrel
          by_cases hlt : j < n
          · have hf := HF.out
            rw [irange_drop hlt] at hf
            have hjn : (j : Int) < n := by omega
            have HQj := HQx.out.below HB.out
            obtain ⟨_, _, _, _, c4, _⟩ := HQj.st.st.cells
            have k8 : wr.cell? ⟨b8, 0, none⟩ = some (.pointer (some ⟨B.gs, 0, none⟩)) := blk_cell HQj.ptr 0
            have dfa := HQj.st.st.atFa (v := (j : Int)) (by omega) hjn
            have dse : wr.cell? ⟨gn, j, none⟩ = some (.bool (gb fin (j : Int))) := by
              have := bls_at (xs := fin) (i := (j : Int)) (by omega) (by rw [HSL.out]; exact hjn)
              exact (blk_cell (blk_below E2.out HB.out) j).trans this
            simp only [Int.toNat_natCast] at dfa
            clear HQj
            cases h1 : gb fin (j : Int)
            · have HF1 := Aside0.mk (pickF_skip (by simp [h1]) hf)
              rw [h1] at dse
              clear HF hf h1
              go_wp2_with fail
              go_roundw
              case rel => exact ⟨j + 1, _, by go_num, by omega, by omega, HF1, HR, HB⟩
              case measure => simp [intOf]; omega
            · rw [h1] at dse
              cases h2 : gb s.fact (j : Int)
              · have HF1 := Aside0.mk (pickF_skip (by simp [h2]) hf)
                rw [h2] at dfa
                clear HF hf h1 h2
                go_wp2_with fail
                go_roundw
                case rel => exact ⟨j + 1, _, by go_num, by omega, by omega, HF1, HR, HB⟩
                case measure => simp [intOf]; omega
              · have HF1 := Aside0.mk (pickF_snoc (by simp [h1, h2]) hf)
                rw [h2] at dfa
                clear HF hf h1 h2
                obtain ⟨As, cs, eS⟩ := Kd.R_slice HR.out
                subst eS
                have hbs := HB.out.size
                go_wp2_with (at_builtin; refine Kd.R_append (Kd.int .i64) (w0 := wx) wx.heap.size rfl (.tmp 124) (.tmp 126) 26 3 (.int .i64 0) 8 rfl Try.underlying26 infoI rfl (by decide) (by omega) (.slice As acc.length cs) acc (j : Int) [.int .i64 (j : Int)] (fun _ => True) (fun _ => False) rfl rfl rfl (fun _ h => h.elim) (fun _ _ => trivial) HR.out HB.out hbs (by omega) ?_; intro v1 w3 hR hB hg hat; have HR3 := Aside0.mk hR; have HB3 := Aside0.mk hB; clear hR hB hg hat)
                go_roundw
                case rel => exact ⟨j + 1, _, by go_num, by omega, by simp; omega, HF1, HR3, HB3⟩
                case measure => simp [intOf]; omega
          · have hf := HF.out
            rw [List.drop_of_length_le (by rw [irange_len]; omega)] at hf
            simp only [pickF, List.append_nil] at hf
            have HF1 := Aside0.mk hf
            clear hf HF
            go_wp2_with fail
            go_ret2
            exact ⟨_, rfl, by rw [← HF1.out]; exact Kd.R_lower HR.out (Nat.le_trans HQx.out.old.size (Nat.le_refl _)), below_step HQx.out.old HB.out⟩
      rw [if_pos hlt] at hv
      by_cases hg : (0 ≤ rd td i ∧ rd td i < n) ∧ td.length < 1000000
      rotate_left
      · rw [if_neg hg] at hv; cases hv
      rw [if_pos hg] at hv
      obtain ⟨⟨hq0, hq1⟩, htl⟩ := hg
      obtain ⟨ad, rfl, hel⟩ := Kd.at_int l4 (i : Int) (by omega) (by omega)
      simp only [Int.toNat_natCast] at hel
      obtain ⟨q, hqe⟩ : ∃ q, q = rd td i := ⟨_, rfl⟩
      rw [← hqe] at hv hq0 hq1 hel
      have HV := Aside0.mk hv
      clear hv l4 hqe hmx
      have hal := below_alloc (Below.refl wr.heap.size wr) (.cells #[.int .i64 q] 3 (0, 0))
      have HQ6 := Aside0.mk ((HQ.out.below HB.out).below hal)
      have E6 := Aside0.mk (blk_below E2.out hal)
      have HR6 := Aside0.mk (Kd.R_alloc HR.out (.cells #[.int .i64 q] 3 (0, 0)))
      have HB6 := Aside0.mk (below_step HB.out hal)
      obtain ⟨bq, hbq⟩ : ∃ bq, bq = wr.heap.size := ⟨_, rfl⟩
      have HN6 := Aside0.mk (show (wr.alloc (.cells #[.int .i64 q] 3 (0, 0))).heap[bq]? = some (.cells #[.int .i64 q] 3 (0, 0)) by rw [hbq]; exact blk_new wr _)
      clear hal E2 HR HB HQd
      go_upto_region 13 with fail
      clear hel
      rw [← hbq]
      clear hbq
      have E6 : Aside0 ((wr.alloc (.cells #[.int .i64 q] 3)).heap[gn]? = some (.cells (bls inn) 4 (0, 0))) := E6
      have HQ6 : Aside0 (LookAt w (wr.alloc (.cells #[.int .i64 q] 3)) w0 ℓ B n m v1 v3 A2 c2 kd hd bd Af fs vt vi vr s g0 b8) := HQ6
      have HB6 : Aside0 (Below w2.heap.size w2 (wr.alloc (.cells #[.int .i64 q] 3))) := HB6
      have HN6 : Aside0 ((wr.alloc (.cells #[.int .i64 q] 3)).heap[bq]? = some (.cells #[.int .i64 q] 3 (0, 0))) := HN6
      have HR6 : Aside0 (Kd.R (Kd.int .i64) 3 (wr.alloc (.cells #[.int .i64 q] 3)) w2.heap.size (fun b => b ≠ gn) (.slice (some ad) td.length cs) td) := HR6
      generalize wr.alloc (.cells #[.int .i64 q] 3) = w6 at E6 HQ6 HB6 HN6 HR6 ⊢
      as_aux_lemma =>
      obtain ⟨_, _, _, _, c4, _⟩ := HQ6.out.st.st.cells
      have k8 : w6.cell? ⟨b8, 0, none⟩ = some (.pointer (some ⟨B.gs, 0, none⟩)) := blk_cell HQ6.out.ptr 0
      have dfa := HQ6.out.st.st.atFa hq0 hq1
      have kq : w6.cell? ⟨bq, 0, none⟩ = some (.int .i64 q) := blk_cell HN6.out 0
      have hv := HV.out
      by_cases hf : gb s.fact q = true
      · rw [if_pos hf] at hv
        rw [hf] at dfa
        have HV1 := Aside0.mk hv
        clear hv HV hf
        repeat (go_quiet (fail))
        clear c4 k8 dfa kq
        go_wp2_with fail
        go_roundg k2
        case measure => have := HK.out; omega
        case rel => exact ⟨td, i + 1, inn, by go_num, HV1, ⟨by have := HK.out; omega⟩, HSL, ⟨blk_below E6.out (pw_below_drewN (Below.refl _ _) _)⟩, ⟨Kd.R_drewN HR6.out _⟩, ⟨pw_below_drewN HB6.out _⟩⟩
      · rw [if_neg hf] at hv
        rw [Bool.eq_false_iff.2 hf] at dfa
        clear hf HV
        obtain ⟨rows, hrows⟩ : ∃ rows, rows = s.rls.getD q.toNat [] := ⟨_, rfl⟩
        obtain ⟨i2, hi⟩ : ∃ i2, i2 = restV s bd q := ⟨_, rfl⟩
        rw [← hrows, ← hi] at hv
        unfold restV at hi
        rw [← hrows] at hi
        by_cases hg1 : (∀ r, r ∈ rows → (0 ≤ r ∧ r < m) ∧ ∀ b, b ∈ bd r → 0 ≤ b ∧ b < n) ∧ 0 ≤ i2 ∧ i2 < rows.length
        rotate_left
        · rw [if_neg hg1] at hv; cases hv
        rw [if_pos hg1] at hv
        obtain ⟨hrm, hi0, hi1⟩ := hg1
        obtain ⟨hrr, hbm⟩ := hrm (rd rows i2) (by have := rd_mem (l := rows) (j := i2.toNat) (by omega); rwa [Int.toNat_of_nonneg hi0] at this)
        obtain ⟨rr, hrrd⟩ : ∃ rr, rr = rd rows i2 := ⟨_, rfl⟩
        rw [← hrrd] at hv hrr hbm
        obtain ⟨rr0, rr1⟩ := hrr
        obtain ⟨⟨in2, td2⟩, hpv, hv⟩ := Option.bind_eq_some_iff.1 hv
        have HV2 := Aside0.mk hv
        have HP2 := Aside0.mk hpv
        have HX1 := Aside0.mk hrm
        have HX2 := Aside0.mk hbm
        have HI1 := Aside0.mk hi
        have HRW := Aside0.mk hrows
        have HRD := Aside0.mk hrrd
        clear hv hpv hrm hbm hi hrows hrrd
        repeat (go_quiet (fail))
        clear c4 k8 dfa kq
        have hdr := pw_below_drewN (Below.refl w6.heap.size w6) nq
        have HQ7 := Aside0.mk (HQ6.out.below hdr)
        have E7 := Aside0.mk (blk_below E6.out hdr)
        have HN7 := Aside0.mk (blk_below HN6.out hdr)
        have HR7 := Aside0.mk (Kd.R_drewN HR6.out nq)
        have HB7 := Aside0.mk (pw_below_drewN HB6.out nq)
        clear hdr HQ6 E6 HN6 HR6 HB6
        generalize w6.drewN nq = w7 at HQ7 E7 HN7 HR7 HB7 ⊢
        as_aux_lemma =>
        have hal := below_alloc (Below.refl w7.heap.size w7) (.cells #[.func (.func 29) #[] #[.pointer (some ⟨b8, 0, none⟩), .pointer (some ⟨bq, 0, none⟩)]] 51 (0, 0))
        have HQ8 := Aside0.mk (HQ7.out.below hal)
        have E8 := Aside0.mk (blk_below E7.out hal)
        have HN8 := Aside0.mk (blk_below HN7.out hal)
        have HR8 := Aside0.mk (Kd.R_alloc HR7.out (.cells #[.func (.func 29) #[] #[.pointer (some ⟨b8, 0, none⟩), .pointer (some ⟨bq, 0, none⟩)]] 51 (0, 0)))
        have HB8 := Aside0.mk (below_step HB7.out hal)
        obtain ⟨be, hbe⟩ : ∃ be, be = w7.heap.size := ⟨_, rfl⟩
        have HF8 := Aside0.mk (show (w7.alloc (.cells #[.func (.func 29) #[] #[.pointer (some ⟨b8, 0, none⟩), .pointer (some ⟨bq, 0, none⟩)]] 51 (0, 0))).heap[be]? = some (.cells #[.func (.func 29) #[] #[.pointer (some ⟨b8, 0, none⟩), .pointer (some ⟨bq, 0, none⟩)]] 51 (0, 0)) by rw [hbe]; exact blk_new w7 _)
        clear hal HQ7 E7 HN7 HR7 HB7
        have hsf := fun (a : Addr) (c : Array Value) (w : World) => run_store Try.prog w a (.func (.func 29) #[] c) .plain rfl
        go_upto_region 15 with fail
        clear hsf
        rw [← hbe]
        clear hbe
        have HQ8 : Aside0 (LookAt w (w7.alloc (.cells #[.func (.func 29) #[] #[.pointer (some ⟨b8, 0, none⟩), .pointer (some ⟨bq, 0, none⟩)]] 51)) w0 ℓ B n m v1 v3 A2 c2 kd hd bd Af fs vt vi vr s g0 b8) := HQ8
        have E8 : Aside0 ((w7.alloc (.cells #[.func (.func 29) #[] #[.pointer (some ⟨b8, 0, none⟩), .pointer (some ⟨bq, 0, none⟩)]] 51)).heap[gn]? = some (.cells (bls inn) 4 (0, 0))) := E8
        have HN8 : Aside0 ((w7.alloc (.cells #[.func (.func 29) #[] #[.pointer (some ⟨b8, 0, none⟩), .pointer (some ⟨bq, 0, none⟩)]] 51)).heap[bq]? = some (.cells #[.int .i64 q] 3 (0, 0))) := HN8
        have HR8 : Aside0 (Kd.R (Kd.int .i64) 3 (w7.alloc (.cells #[.func (.func 29) #[] #[.pointer (some ⟨b8, 0, none⟩), .pointer (some ⟨bq, 0, none⟩)]] 51)) w2.heap.size (fun b => b ≠ gn) (.slice (some ad) td.length cs) td) := HR8
        have HB8 : Aside0 (Below w2.heap.size w2 (w7.alloc (.cells #[.func (.func 29) #[] #[.pointer (some ⟨b8, 0, none⟩), .pointer (some ⟨bq, 0, none⟩)]] 51))) := HB8
        have HF8 : Aside0 ((w7.alloc (.cells #[.func (.func 29) #[] #[.pointer (some ⟨b8, 0, none⟩), .pointer (some ⟨bq, 0, none⟩)]] 51)).heap[be]? = some (.cells #[.func (.func 29) #[] #[.pointer (some ⟨b8, 0, none⟩), .pointer (some ⟨bq, 0, none⟩)]] 51 (0, 0))) := HF8
        generalize w7.alloc (.cells #[.func (.func 29) #[] #[.pointer (some ⟨b8, 0, none⟩), .pointer (some ⟨bq, 0, none⟩)]] 51) = w8 at HQ8 E8 HN8 HR8 HB8 HF8 ⊢
        as_aux_lemma =>
        obtain ⟨_, _, _, _, _, _, c6, _⟩ := HQ8.out.st.st.cells
        have k8 : w8.cell? ⟨b8, 0, none⟩ = some (.pointer (some ⟨B.gs, 0, none⟩)) := blk_cell HQ8.out.ptr 0
        have kq : w8.cell? ⟨bq, 0, none⟩ = some (.int .i64 q) := blk_cell HN8.out 0
        obtain ⟨l1, l2⟩ := HQ8.out.st.st.lsRow hq0 hq1
        rw [← HRW.out] at l2
        have l3 := HQ8.out.st.st.M.row _ _ _ l2
        obtain ⟨Ar, cr, er⟩ := Kd.R_slice l3
        rw [er] at l1 l3
        have l4 := (Kd.R_reads' l3).2.2
        obtain ⟨ad1, rfl, hel⟩ := Kd.at_int l4 i2 hi0 hi1
        rw [← HRD.out] at hel
        have HC1 := Aside0.mk l4
        clear l2 l3 l4 er
        refine start_ (n := 19) (S := fun w' => w'.cell? ⟨b8, 0, none⟩ = some (.pointer (some ⟨B.gs, 0, none⟩)) ∧ w'.cell? ⟨B.gs, 6, none⟩ = some (.slice (some ⟨B.br, 0, none⟩) n n) ∧ w'.cell? ⟨bq, 0, none⟩ = some (.int .i64 q) ∧ w'.cell? ⟨B.br, q.toNat, none⟩ = some (.slice (some ad1) rows.length cr) ∧ w'.cell? (ad1.add i2.toNat) = some (.int .i64 rr)) (ds := []) #[false, false, false, false, false, false, false, false, false, false, false, false, false, false, false, false, false, false, false] (by kernel_rfl) rfl rfl (⟨k8, c6, kq, l1, hel⟩) (fun hHeld => ?_)
        refine pure_ (i := 14) (N := some 78) (v := ?_) (a' := ?_) #[false, false, false, false, false, false, false, false, false, false, false, false, false, false, true, false, false, false, false] rfl rfl (by kernel_rfl) (fun _ _ _ h => h) (Or.inl ⟨by rfl, ?_⟩) ?_ ?_
        rotate_left
        · intro w'
          go_simp
          with_reducible rfl
        rotate_left
        · simp only [Act.put, List.setIfInBounds_toArray, List.set_cons_zero, List.set_cons_succ, i64_w, i32_w]
          rfl
        refine take_ (i := 0) (N := some 64) (v := ?_) (a' := ?_) #[true, false, false, false, false, false, false, false, false, false, false, false, false, false, true, false, false, false, false] rfl rfl (by kernel_rfl) (fun _ _ _ h => h) (Or.inl ⟨by rfl, ?_⟩) hHeld ?_ ?_
        rotate_left
        · rintro w' ⟨s0, s1, s2, s3, s4⟩
          go_simp
          with_reducible rfl
        rotate_left
        · simp only [Act.put, List.setIfInBounds_toArray, List.set_cons_zero, List.set_cons_succ, i64_w, i32_w]
          rfl
        refine pure_ (i := 1) (N := some 65) (v := ?_) (a' := ?_) #[true, true, false, false, false, false, false, false, false, false, false, false, false, false, true, false, false, false, false] rfl rfl (by kernel_rfl) (fun _ _ _ h => h) (Or.inl ⟨by rfl, ?_⟩) ?_ ?_
        rotate_left
        · intro w'
          go_simp
          with_reducible rfl
        rotate_left
        · simp only [Act.put, List.setIfInBounds_toArray, List.set_cons_zero, List.set_cons_succ, i64_w, i32_w]
          rfl
        refine pure_ (i := 2) (N := some 66) (v := ?_) (a' := ?_) #[true, true, true, false, false, false, false, false, false, false, false, false, false, false, true, false, false, false, false] rfl rfl (by kernel_rfl) (fun _ _ _ h => h) (Or.inl ⟨by rfl, ?_⟩) ?_ ?_
        rotate_left
        · intro w'
          go_simp
          with_reducible rfl
        rotate_left
        · simp only [Act.put, List.setIfInBounds_toArray, List.set_cons_zero, List.set_cons_succ, i64_w, i32_w]
          rfl
        refine take_ (i := 3) (N := some 67) (v := ?_) (a' := ?_) #[true, true, true, true, false, false, false, false, false, false, false, false, false, false, true, false, false, false, false] rfl rfl (by kernel_rfl) (fun _ _ _ h => h) (Or.inl ⟨by rfl, ?_⟩) hHeld ?_ ?_
        rotate_left
        · rintro w' ⟨s0, s1, s2, s3, s4⟩
          go_simp
          with_reducible rfl
        rotate_left
        · simp only [Act.put, List.setIfInBounds_toArray, List.set_cons_zero, List.set_cons_succ, i64_w, i32_w]
          rfl
        refine take_ (i := 4) (N := some 68) (v := ?_) (a' := ?_) #[true, true, true, true, true, false, false, false, false, false, false, false, false, false, true, false, false, false, false] rfl rfl (by kernel_rfl) (fun _ _ _ h => h) (Or.inl ⟨by rfl, ?_⟩) hHeld ?_ ?_
        rotate_left
        · rintro w' ⟨s0, s1, s2, s3, s4⟩
          go_simp
          with_reducible rfl
        rotate_left
        · simp only [Act.put, List.setIfInBounds_toArray, List.set_cons_zero, List.set_cons_succ, i64_w, i32_w]
          rfl
        refine pure_ (i := 5) (N := some 69) (v := ?_) (a' := ?_) #[true, true, true, true, true, true, false, false, false, false, false, false, false, false, true, false, false, false, false] rfl rfl (by kernel_rfl) (fun _ _ _ h => h) (Or.inl ⟨by rfl, ?_⟩) ?_ ?_
        rotate_left
        · intro w'
          go_simp
          with_reducible rfl
        rotate_left
        · simp only [Act.put, List.setIfInBounds_toArray, List.set_cons_zero, List.set_cons_succ, i64_w, i32_w]
          rfl
        refine take_ (i := 6) (N := some 70) (v := ?_) (a' := ?_) #[true, true, true, true, true, true, true, false, false, false, false, false, false, false, true, false, false, false, false] rfl rfl (by kernel_rfl) (fun _ _ _ h => h) (Or.inl ⟨by rfl, ?_⟩) hHeld ?_ ?_
        rotate_left
        · rintro w' ⟨s0, s1, s2, s3, s4⟩
          go_simp
          with_reducible rfl
        rotate_left
        · simp only [Act.put, List.setIfInBounds_toArray, List.set_cons_zero, List.set_cons_succ, i64_w, i32_w]
          rfl
        refine take_ (i := 7) (N := some 71) (v := ?_) (a' := ?_) #[true, true, true, true, true, true, true, true, false, false, false, false, false, false, true, false, false, false, false] rfl rfl (by kernel_rfl) (fun _ _ _ h => h) (Or.inl ⟨by rfl, ?_⟩) hHeld ?_ ?_
        rotate_left
        · rintro w' ⟨s0, s1, s2, s3, s4⟩
          go_simp
          with_reducible rfl
        rotate_left
        · simp only [Act.put, List.setIfInBounds_toArray, List.set_cons_zero, List.set_cons_succ, i64_w, i32_w]
          rfl
        refine pure_ (i := 8) (N := some 72) (v := ?_) (a' := ?_) #[true, true, true, true, true, true, true, true, true, false, false, false, false, false, true, false, false, false, false] rfl rfl (by kernel_rfl) (fun _ _ _ h => h) (Or.inl ⟨by rfl, ?_⟩) ?_ ?_
        rotate_left
        · intro w'
          go_simp
          with_reducible rfl
        rotate_left
        · simp only [Act.put, List.setIfInBounds_toArray, List.set_cons_zero, List.set_cons_succ, i64_w, i32_w]
          rfl
        refine pure_ (i := 9) (N := some 73) (v := ?_) (a' := ?_) #[true, true, true, true, true, true, true, true, true, true, false, false, false, false, true, false, false, false, false] rfl rfl (by kernel_rfl) (fun _ _ _ h => h) (Or.inl ⟨by rfl, ?_⟩) ?_ ?_
        rotate_left
        · intro w'
          go_simp
          with_reducible rfl
        rotate_left
        · simp only [Act.put, List.setIfInBounds_toArray, List.set_cons_zero, List.set_cons_succ, i64_w, i32_w]
          rfl
        refine take_ (i := 10) (N := some 74) (v := ?_) (a' := ?_) #[true, true, true, true, true, true, true, true, true, true, true, false, false, false, true, false, false, false, false] rfl rfl (by kernel_rfl) (fun _ _ _ h => h) (Or.inl ⟨by rfl, ?_⟩) hHeld ?_ ?_
        rotate_left
        · rintro w' ⟨s0, s1, s2, s3, s4⟩
          go_simp
          with_reducible rfl
        rotate_left
        · simp only [Act.put, List.setIfInBounds_toArray, List.set_cons_zero, List.set_cons_succ, i64_w, i32_w]
          rfl
        refine take_ (i := 11) (N := some 75) (v := ?_) (a' := ?_) #[true, true, true, true, true, true, true, true, true, true, true, true, false, false, true, false, false, false, false] rfl rfl (by kernel_rfl) (fun _ _ _ h => h) (Or.inl ⟨by rfl, ?_⟩) hHeld ?_ ?_
        rotate_left
        · rintro w' ⟨s0, s1, s2, s3, s4⟩
          go_simp
          with_reducible rfl
        rotate_left
        · simp only [Act.put, List.setIfInBounds_toArray, List.set_cons_zero, List.set_cons_succ, i64_w, i32_w]
          rfl
        refine pure_ (i := 12) (N := some 76) (v := ?_) (a' := ?_) #[true, true, true, true, true, true, true, true, true, true, true, true, true, false, true, false, false, false, false] rfl rfl (by kernel_rfl) (fun _ _ _ h => h) (Or.inl ⟨by rfl, ?_⟩) ?_ ?_
        rotate_left
        · intro w'
          go_simp
          with_reducible rfl
        rotate_left
        · simp only [Act.put, List.setIfInBounds_toArray, List.set_cons_zero, List.set_cons_succ, i64_w, i32_w]
          rfl
        refine take_ (i := 13) (N := some 77) (v := ?_) (a' := ?_) #[true, true, true, true, true, true, true, true, true, true, true, true, true, true, true, false, false, false, false] rfl rfl (by kernel_rfl) (fun _ _ _ h => h) (Or.inl ⟨by rfl, ?_⟩) hHeld ?_ ?_
        rotate_left
        · rintro w' ⟨s0, s1, s2, s3, s4⟩
          go_simp
          with_reducible rfl
        rotate_left
        · simp only [Act.put, List.setIfInBounds_toArray, List.set_cons_zero, List.set_cons_succ, i64_w, i32_w]
          rfl
        refine one_ (i := 15) (N := some 79) #[true, true, true, true, true, true, true, true, true, true, true, true, true, true, true, true, false, false, false] rfl rfl (by kernel_rfl) (by decide) (fun K hK => ?_)
        refine call_ 24 #[.slice (some ad1) rows.length cr, .func (.func 30) #[] #[.pointer (some ⟨g0, 0, none⟩), .pointer (some ⟨be, 0, none⟩)]] (by rfl) rfl ?_ ?_
        · go_simp
        have hdr := below_drew (Below.refl w8.heap.size w8)
        have HQd := HQ8.out.below hdr
        refine (indexFunc_any 30 #[.pointer (some ⟨g0, 0, none⟩), .pointer (some ⟨be, 0, none⟩)] (fun r => !(bd r).any (earlyV s q)) (some ad1) cr rows _ (Kd.C_below HC1.out hdr) (least_fn2 HQd (blk_below HN8.out hdr) (blk_below HF8.out hdr) hq0 hq1 HX1.out)).mono ?_
        rintro e w9 ⟨rfl, hb⟩
        refine ⟨_, rfl, ?_⟩
        have h5 := below_step hdr hb
        rw [← HI1.out]
        have HQ9 := Aside0.mk (HQ8.out.below h5)
        have E9 := Aside0.mk (blk_below E8.out h5)
        have HR9 := Aside0.mk (Kd.R_below HR8.out h5)
        have HB9 := Aside0.mk (below_step HB8.out h5)
        refine hK.out _ _ (⟨(h5.cell (World.block_lt_of_cell? w8 _ k8)).trans k8, (h5.cell (World.block_lt_of_cell? w8 _ c6)).trans c6, (h5.cell (World.block_lt_of_cell? w8 _ kq)).trans kq, (h5.cell (World.block_lt_of_cell? w8 _ l1)).trans l1, (h5.cell (World.block_lt_of_cell? w8 _ hel)).trans hel⟩) (fun hHeld => ?_)
        clear hK K
        refine norm_ (a' := ?_) ?_ ?_
        rotate_left
        · show Act.put _ (some 79) _ = _
          simp only [Act.put, List.setIfInBounds_toArray, List.set_cons_zero, List.set_cons_succ, i64_w, i32_w]
          rfl
        clear hb hdr HQd h5 HQ8 E8 HR8 k8 c6 kq l1 hel HC1
        refine pure_ (i := 16) (N := some 80) (v := ?_) (a' := ?_) #[true, true, true, true, true, true, true, true, true, true, true, true, true, true, true, true, true, false, false] rfl rfl (by kernel_rfl) (fun _ _ _ h => h) (Or.inl ⟨by rfl, ?_⟩) ?_ ?_
        rotate_left
        · intro w'
          go_simp
          with_reducible rfl
        rotate_left
        · simp only [Act.put, List.setIfInBounds_toArray, List.set_cons_zero, List.set_cons_succ, i64_w, i32_w]
          rfl
        refine take_ (i := 17) (N := some 81) (v := ?_) (a' := ?_) #[true, true, true, true, true, true, true, true, true, true, true, true, true, true, true, true, true, true, false] rfl rfl (by kernel_rfl) (fun _ _ _ h => h) (Or.inl ⟨by rfl, ?_⟩) hHeld ?_ ?_
        rotate_left
        · rintro w' ⟨s0, s1, s2, s3, s4⟩
          go_simp
          with_reducible rfl
        rotate_left
        · simp only [Act.put, List.setIfInBounds_toArray, List.set_cons_zero, List.set_cons_succ, i64_w, i32_w]
          rfl
        refine pure_ (i := 18) (N := some 15) (v := ?_) (a' := ?_) #[true, true, true, true, true, true, true, true, true, true, true, true, true, true, true, true, true, true, true] rfl rfl (by kernel_rfl) (fun _ _ _ h => h) (Or.inl ⟨by rfl, ?_⟩) ?_ ?_
        rotate_left
        · intro w'
          go_simp
          with_reducible rfl
        rotate_left
        · simp only [Act.put, List.setIfInBounds_toArray, List.set_cons_zero, List.set_cons_succ, i64_w, i32_w]
          rfl
        refine done_ (by kernel_rfl) ?_
        as_aux_lemma =>
        obtain ⟨ad2, Ab, cb, hA2, _, _, h2, h3⟩ := HQ.out.thy.rules rr rr0 rr1
        have k2 : w9.cell? ⟨g0, 2, none⟩ = some (.slice A2 m c2) := blk_cell HQ9.out.box 2
        rw [hA2] at k2
        have h2 := (HB9.out.cell (World.block_lt_of_cell? w2 _ h2)).trans h2
        have HC3 := Aside0.mk h3
        have hmx3 := Kd.C_max h3
        obtain ⟨bs, hbs⟩ : ∃ bs, bs = bd rr := ⟨_, rfl⟩
        have HP := HP2.out
        have HX := HX2.out
        rw [← hbs] at h2 HC3 hmx3 HP HX
        have HP := Aside0.mk HP
        have HX := Aside0.mk HX
        clear h3 hA2 hbs HP2 HX2 HQ9
        go_wp2_with fail
        clear k2 h2
        go_loopw [11, 89] (fun v11 v89 wr => ∃ (j : Nat) (inj : List Bool) (tdj : List Int), v89 = .int .i64 j ∧ j ≤ bs.length ∧ Aside0 (putV n (bs.drop j) inj tdj = some (in2, td2)) ∧ Aside0 (inj.length = n) ∧ Aside0 (wr.heap[gn]? = some (.cells (bls inj) 4 (0, 0))) ∧ Aside0 (Kd.R (Kd.int .i64) 3 wr w2.heap.size (fun b => b ≠ gn) v11 tdj) ∧ Aside0 (Below w2.heap.size w2 wr)) (fun _ v89 _ => bs.length - (intOf v89).toNat)
        case atStart => exact ⟨0, inn, td, rfl, Nat.zero_le _, ⟨by rw [List.drop_zero]; exact HP.out⟩, HSL, E9, HR9, HB9⟩
        case round =>
          clear E9 HR9 HB9 HP HSL
          obtain ⟨j, inj, tdj, rfl, hj, HPj, HSj, Ej, HRj, HBj⟩ := hrel
          as_aux_lemma =>
          by_cases hlt2 : j < bs.length
          · have hp := HPj.out
            rw [dropR hlt2] at hp
            simp only [putV] at hp
            by_cases hg : (0 ≤ rd bs j ∧ rd bs j < n) ∧ tdj.length < 1000000
            rotate_left
            · rw [if_neg hg] at hp; cases hp
            rw [if_pos hg] at hp
            obtain ⟨⟨b0, b1⟩, htl2⟩ := hg
            obtain ⟨ad3, rfl, hel⟩ := Kd.at_int (Kd.C_below HC3.out HBj.out) (j : Int) (by omega) (by omega)
            simp only [Int.toNat_natCast] at hel
            obtain ⟨b, hb⟩ : ∃ b, b = rd bs j := ⟨_, rfl⟩
            rw [← hb] at hp b0 b1 hel
            clear hb
            have dse : wr.cell? ⟨gn, b.toNat, none⟩ = some (.bool (gb inj b)) := (blk_cell Ej.out _).trans (bls_at b0 (by rw [HSj.out]; exact b1))
            by_cases hgb : gb inj b = true
            · rw [if_pos hgb] at hp
              rw [hgb] at dse
              have HP1 := Aside0.mk hp
              clear hp HPj hgb
              go_wp2_with fail
              go_roundw
              case rel => exact ⟨j + 1, inj, tdj, by go_num, by omega, HP1, HSj, Ej, HRj, HBj⟩
              case measure => simp [intOf]; omega
            · rw [if_neg hgb] at hp
              rw [Bool.eq_false_iff.2 hgb] at dse
              have HP1 := Aside0.mk hp
              clear hp HPj hgb
              have fse := blk_frozen Ej.out b.toNat
              have hset := below_set (j := b.toNat) (v := .bool true) HBj.out HGE.out
              have E5 := Aside0.mk (show (wr.setCell ⟨gn, b.toNat, none⟩ (.bool true)).heap[gn]? = some (.cells (bls (inj.set b.toNat true)) 4 (0, 0)) by have := blk_set Ej.out b.toNat (.bool true); rwa [bls_set] at this)
              have HR5 := Aside0.mk (Kd.R_far HRj.out (p := ⟨gn, b.toNat, none⟩) (fun k hk => hk) (.bool true))
              have HB5 := Aside0.mk hset
              have HSL5 := Aside0.mk (show (inj.set b.toNat true).length = n by rw [List.length_set]; exact HSj.out)
              clear hset HSj HRj HBj
              go_upto_region 21 with fail
              clear dse fse Ej hel
              generalize wr.setCell ⟨gn, b.toNat, none⟩ (.bool true) = w10 at E5 HR5 HB5 ⊢
              obtain ⟨As, cs', eS⟩ := Kd.R_slice HR5.out
              subst eS
              have hbs := HB5.out.size
              go_wp2_with (at_builtin; refine Kd.R_append (Kd.int .i64) (w0 := w2) w2.heap.size rfl (.tmp 101) (.tmp 103) 26 3 (.int .i64 0) 8 rfl Try.underlying26 infoI rfl (by decide) (by omega) (.slice As tdj.length cs') tdj b [.int .i64 b] (fun b => b ≠ gn) (fun _ => False) rfl rfl rfl (fun _ h => h.elim) (fun k hk e => by have := blk_lt E5.out; omega) HR5.out HB5.out hbs (by omega) ?_; intro v1 w3 hR hB hg hat; have HR3 := Aside0.mk hR; have HB3 := Aside0.mk hB; have HE3 := Aside0.mk (blk_grown E5.out hg (fun e => by have := HR5.out.1 _ e.symm; exact this rfl)); clear hR hB hg hat)
              go_roundw
              case rel => exact ⟨j + 1, _, _, by go_num, by omega, HP1, HSL5, HE3, HR3, HB3⟩
              case measure => simp [intOf]; omega
          · have hp := HPj.out
            rw [List.drop_of_length_le (by omega)] at hp
            simp only [putV] at hp
            cases hp
            go_wp2_with fail
            go_roundg k2
            case measure => have := HK.out; omega
            case rel => exact ⟨td2, i + 1, in2, by go_num, HV2, ⟨by have := HK.out; omega⟩, HSj, Ej, HRj, HBj⟩
end
end Go.Proofs.Ythlmpioijjnmnaa.P
