/- The solver of strict rules: its memory, 'tell' and 'after', as plain functions on what it holds. -/
import Derived.Test.YthlmpioijjnmnaaMemo
namespace Go.Proofs.Ythlmpioijjnmnaa.P
open Go.RowKit Go.Proofs.YthlmpioijjnmnaaW.PrintWords Go.Proofs.YthlmpioijjnmnaaW.PrintLast Go.Proofs.YthlmpioijjnmnaaW.PrintMore Go.Proofs.Ythlmpioijjnmnaa.K
set_option linter.unusedVariables false
set_option linter.unusedSimpArgs false

/-- What the solver holds. -/
structure SV where
  fact : List Bool
  ins : List (List Int)
  rls : List (List Int)
  need : List Int
  dead : List Bool
  left : List Int
  plus : List Bool
  minus : List Bool
  hgt : List Int
  told : List Int
def tellV (n : Int) (s : SV) (q : Int) (p : Bool) (r : Int) : Option SV :=
  if (0 ≤ q ∧ q < n) ∧ s.told.length < 1000000 then if gb s.plus q = true ∨ gb s.minus q = true then some s else
    some { s with plus := s.plus.set q.toNat p, minus := s.minus.set q.toNat (!p), hgt := s.hgt.set q.toNat r, told := s.told ++ [q] } else none
/-- A number that nothing makes wrap round. -/
def sm (x : Int) : Prop := -1000000 ≤ x ∧ x ≤ 1000000
instance (x : Int) : Decidable (sm x) := by unfold sm; infer_instance
def afterV (n m : Int) (hd : Int → Int) (q : Int) : List Int → SV → Option SV
  | [], s => some s
  | r :: rs, s => if ((0 ≤ r ∧ r < m) ∧ (0 ≤ hd r ∧ hd r < n)) ∧ sm (ga s.need r) ∧ sm (ga s.left (hd r)) ∧ sm (ga s.hgt q) then
      if gb s.plus q = true then
        if ga s.need r - 1 = 0 then (tellV n { s with need := s.need.set r.toNat (ga s.need r - 1) } (hd r) true (ga s.hgt q + 1)).bind (afterV n m hd q rs)
        else afterV n m hd q rs { s with need := s.need.set r.toNat (ga s.need r - 1) }
      else if gb s.dead r = true then afterV n m hd q rs s
      else if ga s.left (hd r) - 1 = 0 ∧ gb s.fact (hd r) = false then
        (tellV n { s with dead := s.dead.set r.toNat true, left := s.left.set (hd r).toNat (ga s.left (hd r) - 1) } (hd r) false (ga s.hgt q + 1)).bind (afterV n m hd q rs)
      else afterV n m hd q rs { s with dead := s.dead.set r.toNat true, left := s.left.set (hd r).toNat (ga s.left (hd r) - 1) }
    else none

/-- Where the solver's memory lies. -/
structure SvB where
  gs : Nat
  fa : Nat
  bi : Nat
  br : Nat
  ne : Nat
  de : Nat
  le : Nat
  pl : Nat
  mi : Nat
  he : Nat
def svBn (B : SvB) (bx : List Nat) : List Nat := B.gs :: B.fa :: B.bi :: B.br :: B.ne :: B.de :: B.le :: B.pl :: B.mi :: B.he :: bx
/-- The theory's four cells. -/
structure TV where
  a : Value
  b : Value
  c : Value
  d : Value
def svOb (B : SvB) (n m : Nat) (T : TV) (vt : Value) (vi vr : List Value) (s : SV) (ox : List Obj) : List Obj :=
  .cells #[T.a, T.b, T.c, T.d, .slice (some ⟨B.fa, 0, none⟩) n n, .slice (some ⟨B.bi, 0, none⟩) n n, .slice (some ⟨B.br, 0, none⟩) n n, .slice (some ⟨B.ne, 0, none⟩) m m, .slice (some ⟨B.de, 0, none⟩) m m, .slice (some ⟨B.le, 0, none⟩) n n,
    .slice (some ⟨B.pl, 0, none⟩) n n, .slice (some ⟨B.mi, 0, none⟩) n n, .slice (some ⟨B.he, 0, none⟩) n n, vt] 46 (0, 0) ::
  .cells (bls s.fact) 4 (0, 0) :: .cells vi.toArray 26 (0, 0) :: .cells vr.toArray 26 (0, 0) :: .cells (ints s.need) 3 (0, 0) :: .cells (bls s.dead) 4 (0, 0) :: .cells (ints s.left) 3 (0, 0) ::
  .cells (bls s.plus) 4 (0, 0) :: .cells (bls s.minus) 4 (0, 0) :: .cells (ints s.hgt) 3 (0, 0) :: ox
def svRw (vt : Value) (vi vr : List Value) (s : SV) (rx : List (Value × List Int)) : List (Value × List Int) := (vt, s.told) :: (vi.zip s.ins ++ (vr.zip s.rls ++ rx))
structure SvL (n m : Nat) (vi vr : List Value) (s : SV) : Prop where
  fa : s.fact.length = n
  vi : vi.length = n
  vr : vr.length = n
  ins : s.ins.length = n
  rls : s.rls.length = n
  ne : s.need.length = m
  de : s.dead.length = m
  le : s.left.length = n
  pl : s.plus.length = n
  mi : s.minus.length = n
  he : s.hgt.length = n
/-- The solver stands in memory. -/
structure SvS (w0 W : World) (ℓ : Nat → Nat) (B : SvB) (n m : Nat) (T : TV) (vt : Value) (vi vr : List Value) (s : SV) (bx : List Nat) (ox : List Obj) (rx : List (Value × List Int)) : Prop where
  M : Mem w0 W ℓ (svBn B bx) (svOb B n m T vt vi vr s ox) (svRw vt vi vr s rx)
  L : SvL n m vi vr s
section
variable {w0 W W1 : World} {ℓ : Nat → Nat} {B : SvB} {n m : Nat} {T : TV} {vt : Value} {vi vr : List Value} {s : SV} {bx : List Nat} {ox : List Obj} {rx : List (Value × List Int)}
theorem SvS.cells (h : SvS w0 W ℓ B n m T vt vi vr s bx ox rx) :
    W.cell? ⟨B.gs, 0, none⟩ = some T.a ∧ W.cell? ⟨B.gs, 1, none⟩ = some T.b ∧ W.cell? ⟨B.gs, 2, none⟩ = some T.c ∧ W.cell? ⟨B.gs, 3, none⟩ = some T.d ∧ W.cell? ⟨B.gs, 4, none⟩ = some (.slice (some ⟨B.fa, 0, none⟩) n n) ∧
    W.cell? ⟨B.gs, 5, none⟩ = some (.slice (some ⟨B.bi, 0, none⟩) n n) ∧ W.cell? ⟨B.gs, 6, none⟩ = some (.slice (some ⟨B.br, 0, none⟩) n n) ∧ W.cell? ⟨B.gs, 7, none⟩ = some (.slice (some ⟨B.ne, 0, none⟩) m m) ∧ W.cell? ⟨B.gs, 8, none⟩ = some (.slice (some ⟨B.de, 0, none⟩) m m) ∧
    W.cell? ⟨B.gs, 9, none⟩ = some (.slice (some ⟨B.le, 0, none⟩) n n) ∧ W.cell? ⟨B.gs, 10, none⟩ = some (.slice (some ⟨B.pl, 0, none⟩) n n) ∧ W.cell? ⟨B.gs, 11, none⟩ = some (.slice (some ⟨B.mi, 0, none⟩) n n) ∧ W.cell? ⟨B.gs, 12, none⟩ = some (.slice (some ⟨B.he, 0, none⟩) n n) ∧ W.cell? ⟨B.gs, 13, none⟩ = some vt :=
  ⟨h.M.cell 0 rfl rfl 0, h.M.cell 0 rfl rfl 1, h.M.cell 0 rfl rfl 2, h.M.cell 0 rfl rfl 3, h.M.cell 0 rfl rfl 4, h.M.cell 0 rfl rfl 5, h.M.cell 0 rfl rfl 6, h.M.cell 0 rfl rfl 7, h.M.cell 0 rfl rfl 8, h.M.cell 0 rfl rfl 9, h.M.cell 0 rfl rfl 10, h.M.cell 0 rfl rfl 11, h.M.cell 0 rfl rfl 12, h.M.cell 0 rfl rfl 13⟩
theorem SvS.frz (h : SvS w0 W ℓ B n m T vt vi vr s bx ox rx) :
    (∀ j, W.frozen? ⟨B.gs, j, none⟩ = false) ∧ (∀ j, W.frozen? ⟨B.fa, j, none⟩ = false) ∧ (∀ j, W.frozen? ⟨B.bi, j, none⟩ = false) ∧ (∀ j, W.frozen? ⟨B.br, j, none⟩ = false) ∧ (∀ j, W.frozen? ⟨B.ne, j, none⟩ = false) ∧ (∀ j, W.frozen? ⟨B.de, j, none⟩ = false) ∧
    (∀ j, W.frozen? ⟨B.le, j, none⟩ = false) ∧ (∀ j, W.frozen? ⟨B.pl, j, none⟩ = false) ∧ (∀ j, W.frozen? ⟨B.mi, j, none⟩ = false) ∧ (∀ j, W.frozen? ⟨B.he, j, none⟩ = false) :=
  ⟨h.M.froz 0 rfl rfl, h.M.froz 1 rfl rfl, h.M.froz 2 rfl rfl, h.M.froz 3 rfl rfl, h.M.froz 4 rfl rfl, h.M.froz 5 rfl rfl, h.M.froz 6 rfl rfl, h.M.froz 7 rfl rfl, h.M.froz 8 rfl rfl, h.M.froz 9 rfl rfl⟩
theorem SvS.below (h : SvS w0 W ℓ B n m T vt vi vr s bx ox rx) (hb : Below W.heap.size W W1) : SvS w0 W1 ℓ B n m T vt vi vr s bx ox rx := ⟨h.M.onBelow hb, h.L⟩
theorem SvS.drew (h : SvS w0 W ℓ B n m T vt vi vr s bx ox rx) : SvS w0 W.drew ℓ B n m T vt vi vr s bx ox rx := ⟨h.M.drew, h.L⟩
theorem SvS.drewN (h : SvS w0 W ℓ B n m T vt vi vr s bx ox rx) (k : Nat) : SvS w0 (W.drewN k) ℓ B n m T vt vi vr s bx ox rx := ⟨h.M.drewN k, h.L⟩
theorem SvS.setFa (h : SvS w0 W ℓ B n m T vt vi vr s bx ox rx) (i : Nat) (x : Bool) : SvS w0 (W.setCell ⟨B.fa, i, none⟩ (.bool x)) ℓ B n m T vt vi vr { s with fact := s.fact.set i x } bx ox rx :=
  ⟨by have := h.M.set 1 rfl rfl i (.bool x); rwa [bls_set] at this, { h.L with fa := by rw [List.length_set]; exact h.L.fa }⟩
theorem SvS.setNe (h : SvS w0 W ℓ B n m T vt vi vr s bx ox rx) (i : Nat) (x : Int) : SvS w0 (W.setCell ⟨B.ne, i, none⟩ (.int .i64 x)) ℓ B n m T vt vi vr { s with need := s.need.set i x } bx ox rx :=
  ⟨by have := h.M.set 4 rfl rfl i (.int .i64 x); rwa [ints_set] at this, { h.L with ne := by rw [List.length_set]; exact h.L.ne }⟩
theorem SvS.setDe (h : SvS w0 W ℓ B n m T vt vi vr s bx ox rx) (i : Nat) (x : Bool) : SvS w0 (W.setCell ⟨B.de, i, none⟩ (.bool x)) ℓ B n m T vt vi vr { s with dead := s.dead.set i x } bx ox rx :=
  ⟨by have := h.M.set 5 rfl rfl i (.bool x); rwa [bls_set] at this, { h.L with de := by rw [List.length_set]; exact h.L.de }⟩
theorem SvS.setLe (h : SvS w0 W ℓ B n m T vt vi vr s bx ox rx) (i : Nat) (x : Int) : SvS w0 (W.setCell ⟨B.le, i, none⟩ (.int .i64 x)) ℓ B n m T vt vi vr { s with left := s.left.set i x } bx ox rx :=
  ⟨by have := h.M.set 6 rfl rfl i (.int .i64 x); rwa [ints_set] at this, { h.L with le := by rw [List.length_set]; exact h.L.le }⟩
theorem SvS.setPl (h : SvS w0 W ℓ B n m T vt vi vr s bx ox rx) (i : Nat) (x : Bool) : SvS w0 (W.setCell ⟨B.pl, i, none⟩ (.bool x)) ℓ B n m T vt vi vr { s with plus := s.plus.set i x } bx ox rx :=
  ⟨by have := h.M.set 7 rfl rfl i (.bool x); rwa [bls_set] at this, { h.L with pl := by rw [List.length_set]; exact h.L.pl }⟩
theorem SvS.setMi (h : SvS w0 W ℓ B n m T vt vi vr s bx ox rx) (i : Nat) (x : Bool) : SvS w0 (W.setCell ⟨B.mi, i, none⟩ (.bool x)) ℓ B n m T vt vi vr { s with minus := s.minus.set i x } bx ox rx :=
  ⟨by have := h.M.set 8 rfl rfl i (.bool x); rwa [bls_set] at this, { h.L with mi := by rw [List.length_set]; exact h.L.mi }⟩
theorem SvS.setHe (h : SvS w0 W ℓ B n m T vt vi vr s bx ox rx) (i : Nat) (x : Int) : SvS w0 (W.setCell ⟨B.he, i, none⟩ (.int .i64 x)) ℓ B n m T vt vi vr { s with hgt := s.hgt.set i x } bx ox rx :=
  ⟨by have := h.M.set 9 rfl rfl i (.int .i64 x); rwa [ints_set] at this, { h.L with he := by rw [List.length_set]; exact h.L.he }⟩
variable {v : Int}
theorem SvS.atFa (h : SvS w0 W ℓ B n m T vt vi vr s bx ox rx) (h0 : 0 ≤ v) (h1 : v < n) : W.cell? ⟨B.fa, v.toNat, none⟩ = some (.bool (gb s.fact v)) := (h.M.cell 1 rfl rfl _).trans (bls_at h0 (by rw [h.L.fa]; exact h1))
theorem SvS.atNe (h : SvS w0 W ℓ B n m T vt vi vr s bx ox rx) (h0 : 0 ≤ v) (h1 : v < m) : W.cell? ⟨B.ne, v.toNat, none⟩ = some (.int .i64 (ga s.need v)) := (h.M.cell 4 rfl rfl _).trans (ints_at h0 (by rw [h.L.ne]; exact h1))
theorem SvS.atDe (h : SvS w0 W ℓ B n m T vt vi vr s bx ox rx) (h0 : 0 ≤ v) (h1 : v < m) : W.cell? ⟨B.de, v.toNat, none⟩ = some (.bool (gb s.dead v)) := (h.M.cell 5 rfl rfl _).trans (bls_at h0 (by rw [h.L.de]; exact h1))
theorem SvS.atLe (h : SvS w0 W ℓ B n m T vt vi vr s bx ox rx) (h0 : 0 ≤ v) (h1 : v < n) : W.cell? ⟨B.le, v.toNat, none⟩ = some (.int .i64 (ga s.left v)) := (h.M.cell 6 rfl rfl _).trans (ints_at h0 (by rw [h.L.le]; exact h1))
theorem SvS.atPl (h : SvS w0 W ℓ B n m T vt vi vr s bx ox rx) (h0 : 0 ≤ v) (h1 : v < n) : W.cell? ⟨B.pl, v.toNat, none⟩ = some (.bool (gb s.plus v)) := (h.M.cell 7 rfl rfl _).trans (bls_at h0 (by rw [h.L.pl]; exact h1))
theorem SvS.atMi (h : SvS w0 W ℓ B n m T vt vi vr s bx ox rx) (h0 : 0 ≤ v) (h1 : v < n) : W.cell? ⟨B.mi, v.toNat, none⟩ = some (.bool (gb s.minus v)) := (h.M.cell 8 rfl rfl _).trans (bls_at h0 (by rw [h.L.mi]; exact h1))
theorem SvS.atHe (h : SvS w0 W ℓ B n m T vt vi vr s bx ox rx) (h0 : 0 ≤ v) (h1 : v < n) : W.cell? ⟨B.he, v.toNat, none⟩ = some (.int .i64 (ga s.hgt v)) := (h.M.cell 9 rfl rfl _).trans (ints_at h0 (by rw [h.L.he]; exact h1))
/-- The blocks are not one another. -/
theorem SvS.nes (h : SvS w0 W ℓ B n m T vt vi vr s bx ox rx) : B.pl ≠ B.mi ∧ B.mi ≠ B.pl ∧ B.gs ≠ B.pl ∧ B.gs ≠ B.mi ∧ B.gs ≠ B.he ∧ B.he ≠ B.pl ∧ B.he ≠ B.mi :=
  ⟨h.M.ne (c := 7) (c' := 8) rfl rfl rfl rfl (by decide), h.M.ne (c := 8) (c' := 7) rfl rfl rfl rfl (by decide), h.M.ne (c := 0) (c' := 7) rfl rfl rfl rfl (by decide), h.M.ne (c := 0) (c' := 8) rfl rfl rfl rfl (by decide), h.M.ne (c := 0) (c' := 9) rfl rfl rfl rfl (by decide), h.M.ne (c := 9) (c' := 7) rfl rfl rfl rfl (by decide), h.M.ne (c := 9) (c' := 8) rfl rfl rfl rfl (by decide)⟩
end
set_option maxHeartbeats 4000000 in
set_option maxRecDepth 100000 in
theorem tell_any (w0 w : World) (ℓ : Nat → Nat) (B : SvB) (n m : Nat) (T : TV) (vt : Value) (vi vr : List Value) (s s' : SV) (bx : List Nat) (ox : List Obj) (rx : List (Value × List Int)) (q : Int) (p : Bool) (r : Int)
    (hS : SvS w0 w ℓ B n m T vt vi vr s bx ox rx) (h : tellV n s q p r = some s') :
    Calls Try.prog 34 #[.pointer (some ⟨B.gs, 0, none⟩), .int .i64 q, .bool p, .int .i64 r] w fun e w' => e = .returned (.tuple #[]) ∧ ∃ ℓ' vt', SvS w0 w' ℓ' B n m T vt' vi vr s' bx ox rx := by
  unfold tellV at h
  by_cases hq : (0 ≤ q ∧ q < n) ∧ s.told.length < 1000000
  rotate_left
  · rw [if_neg hq] at h; cases h
  rw [if_pos hq] at h
  obtain ⟨⟨hq0, hq1⟩, hlen⟩ := hq
  have HS := Aside0.mk hS
  obtain ⟨_, _, _, _, _, _, _, _, _, _, c10, c11, c12, c13⟩ := hS.cells
  have d1 := hS.atPl hq0 hq1
  have d2 := hS.atMi hq0 hq1
  clear hS
  by_cases hp : gb s.plus q = true
  · rw [if_pos (.inl hp)] at h
    have h := Option.some.inj h
    subst h
    rw [hp] at d1
    clear hp
    go_enter Try.func34, Try.ntmps34
    go_wp2_with fail
    refine bodyPost_ret (results_none rfl _ _ _) rfl ?_
    exact ⟨rfl, _, _, HS.out⟩
  · by_cases hm : gb s.minus q = true
    · rw [if_pos (.inr hm)] at h
      have h := Option.some.inj h
      subst h
      rw [Bool.eq_false_iff.2 hp] at d1
      rw [hm] at d2
      clear hp hm
      go_enter Try.func34, Try.ntmps34
      go_wp2_with fail
      refine bodyPost_ret (results_none rfl _ _ _) rfl ?_
      exact ⟨rfl, _, _, HS.out⟩
    · rw [if_neg (by rintro (x | x); exact hp x; exact hm x)] at h
      have H := Aside0.mk (Option.some.inj h)
      rw [Bool.eq_false_iff.2 hp] at d1
      rw [Bool.eq_false_iff.2 hm] at d2
      clear hp hm h
      go_enter Try.func34, Try.ntmps34
      go_wp2_with fail
      refine start_ (n := 17) (S := fun w' => w'.cell? ⟨B.gs, 10, none⟩ = some (.slice (some ⟨B.pl, 0, none⟩) n n) ∧ w'.cell? ⟨B.gs, 11, none⟩ = some (.slice (some ⟨B.mi, 0, none⟩) n n)) (ds := [14, 16]) #[false, false, false, false, false, false, false, false, false, false, false, false, false, false, false, false, false] (by kernel_rfl) rfl rfl (⟨c10, c11⟩) (fun hHeld => ?_)
      refine pure_ (i := 0) (N := some 24) (v := ?_) (a' := ?_) #[true, false, false, false, false, false, false, false, false, false, false, false, false, false, false, false, false] rfl rfl (by kernel_rfl) (fun _ _ _ h => h) (Or.inl ⟨by rfl, ?_⟩) ?_ ?_
      rotate_left
      · intro w'
        go_simp
        with_reducible rfl
      rotate_left
      · simp only [Act.put, List.setIfInBounds_toArray, List.set_cons_zero, List.set_cons_succ, i64_w, i32_w]
        rfl
      refine pure_ (i := 1) (N := some 25) (v := ?_) (a' := ?_) #[true, true, false, false, false, false, false, false, false, false, false, false, false, false, false, false, false] rfl rfl (by kernel_rfl) (fun _ _ _ h => h) (Or.inl ⟨by rfl, ?_⟩) ?_ ?_
      rotate_left
      · intro w'
        go_simp
        with_reducible rfl
      rotate_left
      · simp only [Act.put, List.setIfInBounds_toArray, List.set_cons_zero, List.set_cons_succ, i64_w, i32_w]
        rfl
      refine pure_ (i := 2) (N := some 26) (v := ?_) (a' := ?_) #[true, true, true, false, false, false, false, false, false, false, false, false, false, false, false, false, false] rfl rfl (by kernel_rfl) (fun _ _ _ h => h) (Or.inl ⟨by rfl, ?_⟩) ?_ ?_
      rotate_left
      · intro w'
        go_simp
        with_reducible rfl
      rotate_left
      · simp only [Act.put, List.setIfInBounds_toArray, List.set_cons_zero, List.set_cons_succ, i64_w, i32_w]
        rfl
      refine pure_ (i := 4) (N := some 28) (v := ?_) (a' := ?_) #[true, true, true, false, true, false, false, false, false, false, false, false, false, false, false, false, false] rfl rfl (by kernel_rfl) (fun _ _ _ h => h) (Or.inl ⟨by rfl, ?_⟩) ?_ ?_
      rotate_left
      · intro w'
        go_simp
        with_reducible rfl
      rotate_left
      · simp only [Act.put, List.setIfInBounds_toArray, List.set_cons_zero, List.set_cons_succ, i64_w, i32_w]
        rfl
      refine pure_ (i := 5) (N := some 29) (v := ?_) (a' := ?_) #[true, true, true, false, true, true, false, false, false, false, false, false, false, false, false, false, false] rfl rfl (by kernel_rfl) (fun _ _ _ h => h) (Or.inl ⟨by rfl, ?_⟩) ?_ ?_
      rotate_left
      · intro w'
        go_simp
        with_reducible rfl
      rotate_left
      · simp only [Act.put, List.setIfInBounds_toArray, List.set_cons_zero, List.set_cons_succ, i64_w, i32_w]
        rfl
      refine pure_ (i := 6) (N := some 30) (v := ?_) (a' := ?_) #[true, true, true, false, true, true, true, false, false, false, false, false, false, false, false, false, false] rfl rfl (by kernel_rfl) (fun _ _ _ h => h) (Or.inl ⟨by rfl, ?_⟩) ?_ ?_
      rotate_left
      · intro w'
        go_simp
        with_reducible rfl
      rotate_left
      · simp only [Act.put, List.setIfInBounds_toArray, List.set_cons_zero, List.set_cons_succ, i64_w, i32_w]
        rfl
      refine pure_ (i := 7) (N := some 31) (v := ?_) (a' := ?_) #[true, true, true, false, true, true, true, true, false, false, false, false, false, false, false, false, false] rfl rfl (by kernel_rfl) (fun _ _ _ h => h) (Or.inl ⟨by rfl, ?_⟩) ?_ ?_
      rotate_left
      · intro w'
        go_simp
        with_reducible rfl
      rotate_left
      · simp only [Act.put, List.setIfInBounds_toArray, List.set_cons_zero, List.set_cons_succ, i64_w, i32_w]
        rfl
      refine pure_ (i := 9) (N := some 33) (v := ?_) (a' := ?_) #[true, true, true, false, true, true, true, true, false, true, false, false, false, false, false, false, false] rfl rfl (by kernel_rfl) (fun _ _ _ h => h) (Or.inl ⟨by rfl, ?_⟩) ?_ ?_
      rotate_left
      · intro w'
        go_simp
        with_reducible rfl
      rotate_left
      · simp only [Act.put, List.setIfInBounds_toArray, List.set_cons_zero, List.set_cons_succ, i64_w, i32_w]
        rfl
      refine pure_ (i := 10) (N := some 34) (v := ?_) (a' := ?_) #[true, true, true, false, true, true, true, true, false, true, true, false, false, false, false, false, false] rfl rfl (by kernel_rfl) (fun _ _ _ h => h) (Or.inl ⟨by rfl, ?_⟩) ?_ ?_
      rotate_left
      · intro w'
        go_simp
        with_reducible rfl
      rotate_left
      · simp only [Act.put, List.setIfInBounds_toArray, List.set_cons_zero, List.set_cons_succ, i64_w, i32_w]
        rfl
      refine pure_ (i := 11) (N := some 35) (v := ?_) (a' := ?_) #[true, true, true, false, true, true, true, true, false, true, true, true, false, false, false, false, false] rfl rfl (by kernel_rfl) (fun _ _ _ h => h) (Or.inl ⟨by rfl, ?_⟩) ?_ ?_
      rotate_left
      · intro w'
        go_simp
        with_reducible rfl
      rotate_left
      · simp only [Act.put, List.setIfInBounds_toArray, List.set_cons_zero, List.set_cons_succ, i64_w, i32_w]
        rfl
      refine pure_ (i := 12) (N := some 36) (v := ?_) (a' := ?_) #[true, true, true, false, true, true, true, true, false, true, true, true, true, false, false, false, false] rfl rfl (by kernel_rfl) (fun _ _ _ h => h) (Or.inl ⟨by rfl, ?_⟩) ?_ ?_
      rotate_left
      · intro w'
        go_simp
        with_reducible rfl
      rotate_left
      · simp only [Act.put, List.setIfInBounds_toArray, List.set_cons_zero, List.set_cons_succ, i64_w, i32_w]
        rfl
      refine take_ (i := 3) (N := some 27) (v := ?_) (a' := ?_) #[true, true, true, true, true, true, true, true, false, true, true, true, true, false, false, false, false] rfl rfl (by kernel_rfl) (fun _ _ _ h => h) (Or.inl ⟨by rfl, ?_⟩) hHeld ?_ ?_
      rotate_left
      · rintro w' ⟨s0, s1⟩
        go_simp
        with_reducible rfl
      rotate_left
      · simp only [Act.put, List.setIfInBounds_toArray, List.set_cons_zero, List.set_cons_succ, i64_w, i32_w]
        rfl
      refine take_ (i := 8) (N := some 32) (v := ?_) (a' := ?_) #[true, true, true, true, true, true, true, true, true, true, true, true, true, false, false, false, false] rfl rfl (by kernel_rfl) (fun _ _ _ h => h) (Or.inl ⟨by rfl, ?_⟩) hHeld ?_ ?_
      rotate_left
      · rintro w' ⟨s0, s1⟩
        go_simp
        with_reducible rfl
      rotate_left
      · simp only [Act.put, List.setIfInBounds_toArray, List.set_cons_zero, List.set_cons_succ, i64_w, i32_w]
        rfl
      refine pure_ (i := 13) (N := some 37) (v := ?_) (a' := ?_) #[true, true, true, true, true, true, true, true, true, true, true, true, true, true, false, false, false] rfl rfl (by kernel_rfl) (fun _ _ _ h => h) (Or.inl ⟨by rfl, ?_⟩) ?_ ?_
      rotate_left
      · intro w'
        go_simp
        with_reducible rfl
      rotate_left
      · simp only [Act.put, List.setIfInBounds_toArray, List.set_cons_zero, List.set_cons_succ, i64_w, i32_w]
        rfl
      refine last_ (i := 14) (N := none) #[true, true, true, true, true, true, true, true, true, true, true, true, true, true, true, false, false] rfl rfl (by kernel_rfl) (by decide) (fun K hK => ?_)
      have f1 := HS.out.frz.2.2.2.2.2.2.2.1 q.toNat
      refine skip_ (w1 := ?_) (by rfl) rfl ?_ ?_
      rotate_left
      · go_simp
        rfl
      refine hK.out _ _ ?_
      clear hK K
      refine pure_ (i := 15) (N := some 38) (v := ?_) (a' := ?_) #[true, true, true, true, true, true, true, true, true, true, true, true, true, true, true, true, false] rfl rfl (by kernel_rfl) (fun _ _ _ h => h) (Or.inl ⟨by rfl, ?_⟩) ?_ ?_
      rotate_left
      · intro w'
        go_simp
        with_reducible rfl
      rotate_left
      · simp only [Act.put, List.setIfInBounds_toArray, List.set_cons_zero, List.set_cons_succ, i64_w, i32_w]
        rfl
      refine last_ (i := 16) (N := none) #[true, true, true, true, true, true, true, true, true, true, true, true, true, true, true, true, true] rfl rfl (by kernel_rfl) (by decide) (fun K hK => ?_)
      have f2 := HS.out.frz.2.2.2.2.2.2.2.2.1 q.toNat
      have x1 := HS.out.nes.1
      have x2 := HS.out.nes.2.1
      refine skip_ (w1 := ?_) (by rfl) rfl ?_ ?_
      rotate_left
      · go_simp
        rfl
      refine hK.out _ _ ?_
      clear hK K
      refine done_ (by kernel_rfl) ?_
      have HS1 := Aside0.mk ((HS.out.setPl q.toNat p).setMi q.toNat (!p)).drew
      clear HS c10 c11 c12 c13 d1 d2 f1 f2 x1 x2
      generalize ((w.setCell ⟨B.pl, q.toNat, none⟩ (.bool p)).setCell ⟨B.mi, q.toNat, none⟩ (.bool !p)).drew = w1 at HS1 ⊢
      as_aux_lemma =>
      obtain ⟨_, _, _, _, _, _, _, _, _, _, _, _, c12, c13⟩ := HS1.out.cells
      have d1 := HS1.out.atHe hq0 hq1
      have f1 := HS1.out.frz.2.2.2.2.2.2.2.2.2 q.toNat
      have x1 := HS1.out.nes.2.2.2.2.1
      have y1 := x1.symm
      go_upto_region 3 with fail
      have HS2 := Aside0.mk (HS1.out.setHe q.toNat r)
      clear HS1 c12 c13 d1 f1 x1 y1
      generalize w1.setCell ⟨B.he, q.toNat, none⟩ (.int .i64 r) = w2 at HS2 ⊢
      as_aux_lemma =>
      obtain ⟨_, _, _, _, _, _, _, _, _, _, _, _, _, c13⟩ := HS2.out.cells
      have f13 := HS2.out.frz.1 13
      have lt := HS2.out.M.lt 0 rfl rfl
      obtain ⟨As, cs, eS⟩ := Kd.R_slice (HS2.out.M.row 0 vt s.told rfl)
      subst eS
      have HA := Aside0.mk (HS2.out.M.alloc (.cells #[.int .i64 q] 3))
      have HQ := Aside0.mk (HS2.out.M.ask 0 rfl)
      have hbs := HS2.out.M.below.size
      go_wp2_with (at_builtin; refine Kd.R_append (Kd.int .i64) (w0 := w0) w0.heap.size rfl (.tmp 50) (.tmp 52) 26 3 (.int .i64 0) 8 rfl Try.underlying26 infoI rfl (by decide) (by omega) (.slice As s.told.length cs) s.told q [.int .i64 q] (fun k => lab w2 ℓ (2 * 0 + 1) k = 2 * 0 + 1) (fun _ => False) rfl rfl rfl (fun _ h => h.elim) HQ.out.2 HQ.out.1 HS2.out.M.below hbs (by omega) ?_; intro v1 w3 hR hB hg hat; have HM := Aside0.mk (HS2.out.M.appended 0 rfl hR hg); obtain ⟨Ao, co, eo⟩ := Kd.R_slice hR; have el : (s.told ++ [q]).length = s.told.length + 1 := (by simp); rw [el] at eo; clear el; subst eo; have g13 : w3.cell? ⟨B.gs, 13, none⟩ = some (.slice As s.told.length cs) := HM.out.cell 0 rfl rfl 13; have k13 := HM.out.froz (cs := _) 0 rfl rfl 13; clear hR hB hg hat)
      go_end0
      rw [← H.out]
      have hl := HS2.out.L
      exact ⟨rfl, _, _, HM.out.set 0 rfl rfl 13 (.slice Ao (s.told.length + 1) co), ⟨hl.fa, hl.vi, hl.vr, hl.ins, hl.rls, hl.ne, hl.de, hl.le, hl.pl, hl.mi, hl.he⟩⟩
end Go.Proofs.Ythlmpioijjnmnaa.P
