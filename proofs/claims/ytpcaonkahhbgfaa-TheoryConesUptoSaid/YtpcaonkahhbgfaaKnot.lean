/- The program's search for knots does what the plain search does. -/
import Derived.Test.YtpcaonkahhbgfaaProg
import Derived.Test.YtpcaonkahhbgfaaFits
import Derived.Test.YtpcaonkahhbgfaaLite
import Derived.Test.YtpcaonkahhbgfaaTarj
import Derived.Outline
namespace Go.Proofs.Ytpcaonkahhbgfaa.P
open Go.RowKit Go.Proofs.YtpcaonkahhbgfaaW.PrintWords Go.Proofs.YtpcaonkahhbgfaaW.PrintLast Go.Proofs.YtpcaonkahhbgfaaW.PrintMore Go.Proofs.Ytpcaonkahhbgfaa.K
attribute [local go_sem] max2_int min2_int max_two min_two
set_option linter.unusedVariables false
set_option linter.unusedSimpArgs false

def ints (xs : List Int) : Array Value := (nums .i64 xs).toArray
def bls (xs : List Bool) : Array Value := (bools xs).toArray
theorem ints_at {xs : List Int} {i : Int} (h0 : 0 ≤ i) (h1 : i < xs.length) : (ints xs)[i.toNat]? = some (.int .i64 (ga xs i)) := by
  have h : i.toNat < xs.length := by omega
  simp [ints, nums, ga, List.getD_eq_getElem?_getD, List.getElem?_eq_getElem h]
theorem bls_at {xs : List Bool} {i : Int} (h0 : 0 ≤ i) (h1 : i < xs.length) : (bls xs)[i.toNat]? = some (.bool (gb xs i)) := by
  have h : i.toNat < xs.length := by omega
  simp [bls, bools, gb, List.getD_eq_getElem?_getD, List.getElem?_eq_getElem h]
theorem ints_set (xs : List Int) (i : Nat) (x : Int) : (ints xs).setIfInBounds i (.int .i64 x) = ints (xs.set i x) := by
  simp [ints, nums, List.map_set]
theorem bls_set (xs : List Bool) (i : Nat) (x : Bool) : (bls xs).setIfInBounds i (.bool x) = bls (xs.set i x) := by
  simp [bls, bools, List.map_set]

/-- Where the search's memory lies. -/
structure KnB where
  g : Nat
  bi : Nat
  bl : Nat
  bo : Nat
  bf : Nat
structure KnS (w0 W : World) (B : KnB) (n : Nat) (nv vst : Value) (s : KS) : Prop where
  blk : W.heap[B.g]? = some (.cells #[nv, .slice (some ⟨B.bi, 0, none⟩) n n, .slice (some ⟨B.bl, 0, none⟩) n n, .slice (some ⟨B.bo, 0, none⟩) n n, vst, .slice (some ⟨B.bf, 0, none⟩) n n, .int .i64 s.ct, .int .i64 s.kn] 72 (0, 0))
  ix : W.heap[B.bi]? = some (.cells (ints s.ix) 3 (0, 0))
  lo : W.heap[B.bl]? = some (.cells (ints s.lo) 3 (0, 0))
  on : W.heap[B.bo]? = some (.cells (bls s.on) 4 (0, 0))
  of : W.heap[B.bf]? = some (.cells (ints s.of) 3 (0, 0))
  lix : s.ix.length = n
  llo : s.lo.length = n
  lon : s.on.length = n
  lof : s.of.length = n
  row : Kd.R (Kd.int .i64) 3 W w0.heap.size (fun k => k ≠ B.bi ∧ k ≠ B.bl ∧ k ≠ B.bf) vst s.st
  ne : B.bi ≠ B.bl ∧ B.bi ≠ B.bf ∧ B.bl ≠ B.bf
  ge : w0.heap.size ≤ B.g ∧ w0.heap.size ≤ B.bi ∧ w0.heap.size ≤ B.bl ∧ w0.heap.size ≤ B.bo ∧ w0.heap.size ≤ B.bf
  below : Below w0.heap.size w0 W
structure KnM (w0 W : World) (B : KnB) (n : Nat) (nv vst : Value) (s : KS) : Prop where
  blk : W.heap[B.g]? = some (.cells #[nv, .slice (some ⟨B.bi, 0, none⟩) n n, .slice (some ⟨B.bl, 0, none⟩) n n, .slice (some ⟨B.bo, 0, none⟩) n n, vst, .slice (some ⟨B.bf, 0, none⟩) n n, .int .i64 s.ct, .int .i64 s.kn] 72 (0, 0))
  ix : W.heap[B.bi]? = some (.cells (ints s.ix) 3 (0, 0))
  lo : W.heap[B.bl]? = some (.cells (ints s.lo) 3 (0, 0))
  on : W.heap[B.bo]? = some (.cells (bls s.on) 4 (0, 0))
  of : W.heap[B.bf]? = some (.cells (ints s.of) 3 (0, 0))
  lix : s.ix.length = n
  llo : s.lo.length = n
  lon : s.on.length = n
  lof : s.of.length = n
  ne : B.bi ≠ B.bl ∧ B.bi ≠ B.bf ∧ B.bl ≠ B.bf
  ge : w0.heap.size ≤ B.g ∧ w0.heap.size ≤ B.bi ∧ w0.heap.size ≤ B.bl ∧ w0.heap.size ≤ B.bo ∧ w0.heap.size ≤ B.bf
  below : Below w0.heap.size w0 W
section
variable {w0 W W1 : World} {B : KnB} {n : Nat} {nv vst : Value} {s : KS}
theorem KnS.nes (h : KnS w0 W B n nv vst s) : B.g ≠ B.bi ∧ B.g ≠ B.bl ∧ B.g ≠ B.bo ∧ B.g ≠ B.bf ∧ B.bo ≠ B.bi ∧ B.bo ≠ B.bl ∧ B.bo ≠ B.bf :=
  ⟨blk_ne h.blk h.ix (by decide), blk_ne h.blk h.lo (by decide), blk_ne h.blk h.on (by decide), blk_ne h.blk h.of (by decide), blk_ne h.on h.ix (by decide), blk_ne h.on h.lo (by decide), blk_ne h.on h.of (by decide)⟩
/-- The stack's block is none of the others. -/
theorem KnS.stk (h : KnS w0 W B n nv vst s) : Kd.R (Kd.int .i64) 3 W w0.heap.size (fun k => k ≠ B.bi ∧ k ≠ B.bl ∧ k ≠ B.bf ∧ k ≠ B.g ∧ k ≠ B.bo) vst s.st := by
  refine Kd.R_mono (R_tightI h.row) ?_
  rintro k ⟨h1, h2, h3, h4⟩
  exact ⟨h2, h3, h4, fun e => Kd.R_ne h.row h.blk (by decide) (e ▸ h1), fun e => Kd.R_ne h.row h.on (by decide) (e ▸ h1)⟩
theorem KnS.drewN (h : KnS w0 W B n nv vst s) (m : Nat) : KnS w0 (W.drewN m) B n nv vst s :=
  ⟨h.blk, h.ix, h.lo, h.on, h.of, h.lix, h.llo, h.lon, h.lof, Kd.R_drewN h.row m, h.ne, h.ge, pw_below_drewN h.below m⟩
theorem KnS.drew (h : KnS w0 W B n nv vst s) : KnS w0 W.drew B n nv vst s :=
  ⟨h.blk, h.ix, h.lo, h.on, h.of, h.lix, h.llo, h.lon, h.lof, Kd.R_drew h.row, h.ne, h.ge, below_drew h.below⟩
theorem KnS.setIx (h : KnS w0 W B n nv vst s) (i : Nat) (x : Int) : KnS w0 (W.setCell ⟨B.bi, i, none⟩ (.int .i64 x)) B n nv vst { s with ix := s.ix.set i x } := by
  obtain ⟨e1, e2, e3, e4, e5, e6, e7⟩ := h.nes
  exact ⟨blk_far h.blk e1 _, by have := blk_set h.ix i (.int .i64 x); rwa [ints_set] at this, blk_far h.lo h.ne.1.symm _, blk_far h.on e5 _, blk_far h.of h.ne.2.1.symm _, by rw [List.length_set]; exact h.lix, h.llo, h.lon, h.lof,
    Kd.R_far h.row (fun k hk => hk.1) _, h.ne, h.ge, below_set h.below h.ge.2.1⟩
theorem KnS.setLo (h : KnS w0 W B n nv vst s) (i : Nat) (x : Int) : KnS w0 (W.setCell ⟨B.bl, i, none⟩ (.int .i64 x)) B n nv vst { s with lo := s.lo.set i x } := by
  obtain ⟨e1, e2, e3, e4, e5, e6, e7⟩ := h.nes
  exact ⟨blk_far h.blk e2 _, blk_far h.ix h.ne.1 _, by have := blk_set h.lo i (.int .i64 x); rwa [ints_set] at this, blk_far h.on e6 _, blk_far h.of h.ne.2.2.symm _, h.lix, by rw [List.length_set]; exact h.llo, h.lon, h.lof,
    Kd.R_far h.row (fun k hk => hk.2.1) _, h.ne, h.ge, below_set h.below h.ge.2.2.1⟩
theorem KnS.setOf (h : KnS w0 W B n nv vst s) (i : Nat) (x : Int) : KnS w0 (W.setCell ⟨B.bf, i, none⟩ (.int .i64 x)) B n nv vst { s with of := s.of.set i x } := by
  obtain ⟨e1, e2, e3, e4, e5, e6, e7⟩ := h.nes
  exact ⟨blk_far h.blk e4 _, blk_far h.ix h.ne.2.1 _, blk_far h.lo h.ne.2.2 _, blk_far h.on e7 _, by have := blk_set h.of i (.int .i64 x); rwa [ints_set] at this, h.lix, h.llo, h.lon, by rw [List.length_set]; exact h.lof,
    Kd.R_far h.row (fun k hk => hk.2.2) _, h.ne, h.ge, below_set h.below h.ge.2.2.2.2⟩
theorem KnS.setOn (h : KnS w0 W B n nv vst s) (i : Nat) (x : Bool) : KnS w0 (W.setCell ⟨B.bo, i, none⟩ (.bool x)) B n nv vst { s with on := s.on.set i x } := by
  obtain ⟨e1, e2, e3, e4, e5, e6, e7⟩ := h.nes
  exact ⟨blk_far h.blk e3 _, blk_far h.ix e5.symm _, blk_far h.lo e6.symm _, by have := blk_set h.on i (.bool x); rwa [bls_set] at this, blk_far h.of e7.symm _, h.lix, h.llo, by rw [List.length_set]; exact h.lon, h.lof,
    Kd.R_far h.stk (fun k hk => hk.2.2.2.2) _ |> fun q => Kd.R_mono q (fun k hk => ⟨hk.1, hk.2.1, hk.2.2.1⟩), h.ne, h.ge, below_set h.below h.ge.2.2.2.1⟩
theorem KnS.setCt (h : KnS w0 W B n nv vst s) (x : Int) : KnS w0 (W.setCell ⟨B.g, 6, none⟩ (.int .i64 x)) B n nv vst { s with ct := x } := by
  obtain ⟨e1, e2, e3, e4, e5, e6, e7⟩ := h.nes
  exact ⟨by have := blk_set h.blk 6 (.int .i64 x); simpa using this, blk_far h.ix e1.symm _, blk_far h.lo e2.symm _, blk_far h.on e3.symm _, blk_far h.of e4.symm _, h.lix, h.llo, h.lon, h.lof,
    Kd.R_far h.stk (fun k hk => hk.2.2.2.1) _ |> fun q => Kd.R_mono q (fun k hk => ⟨hk.1, hk.2.1, hk.2.2.1⟩), h.ne, h.ge, below_set h.below h.ge.1⟩
theorem KnS.setKn (h : KnS w0 W B n nv vst s) (x : Int) : KnS w0 (W.setCell ⟨B.g, 7, none⟩ (.int .i64 x)) B n nv vst { s with kn := x } := by
  obtain ⟨e1, e2, e3, e4, e5, e6, e7⟩ := h.nes
  exact ⟨by have := blk_set h.blk 7 (.int .i64 x); simpa using this, blk_far h.ix e1.symm _, blk_far h.lo e2.symm _, blk_far h.on e3.symm _, blk_far h.of e4.symm _, h.lix, h.llo, h.lon, h.lof,
    Kd.R_far h.stk (fun k hk => hk.2.2.2.1) _ |> fun q => Kd.R_mono q (fun k hk => ⟨hk.1, hk.2.1, hk.2.2.1⟩), h.ne, h.ge, below_set h.below h.ge.1⟩
theorem KnM.grown (h : KnS w0 W B n nv vst s) (hg : W.grownBy W1 vst.ownBlock) : KnM w0 W1 B n nv vst s := by
  have hr := h.stk
  have q : ∀ k, vst.ownBlock = some k → k ≠ B.bi ∧ k ≠ B.bl ∧ k ≠ B.bf ∧ k ≠ B.g ∧ k ≠ B.bo := hr.1
  exact ⟨blk_grown h.blk hg (fun e => (q _ e.symm).2.2.2.1 rfl), blk_grown h.ix hg (fun e => (q _ e.symm).1 rfl), blk_grown h.lo hg (fun e => (q _ e.symm).2.1 rfl), blk_grown h.on hg (fun e => (q _ e.symm).2.2.2.2 rfl), blk_grown h.of hg (fun e => (q _ e.symm).2.2.1 rfl),
    h.lix, h.llo, h.lon, h.lof, h.ne, h.ge, h.below.grown hg h.below.size (fun k hk => Kd.R_base h.row k hk)⟩
theorem KnS.M (h : KnS w0 W B n nv vst s) : KnM w0 W B n nv vst s := ⟨h.blk, h.ix, h.lo, h.on, h.of, h.lix, h.llo, h.lon, h.lof, h.ne, h.ge, h.below⟩
theorem KnM.setSt (h : KnM w0 W B n nv vst s) {v1 : Value} {t : List Int} (hr : Kd.R (Kd.int .i64) 3 W w0.heap.size (fun k => k ≠ B.bi ∧ k ≠ B.bl ∧ k ≠ B.bf) v1 t) : KnS w0 (W.setCell ⟨B.g, 4, none⟩ v1) B n nv v1 { s with st := t } := by
  have e1 := blk_ne h.blk h.ix (by decide)
  have e2 := blk_ne h.blk h.lo (by decide)
  have e3 := blk_ne h.blk h.on (by decide)
  have e4 := blk_ne h.blk h.of (by decide)
  have hr' : Kd.R (Kd.int .i64) 3 W w0.heap.size (fun k => k ≠ B.bi ∧ k ≠ B.bl ∧ k ≠ B.bf ∧ k ≠ B.g) v1 t :=
    Kd.R_mono (R_tightI hr) (fun k hk => ⟨hk.2.1, hk.2.2.1, hk.2.2.2, fun e => Kd.R_ne hr h.blk (by decide) (e ▸ hk.1)⟩)
  exact ⟨by have := blk_set h.blk 4 v1; simpa using this, blk_far h.ix e1.symm _, blk_far h.lo e2.symm _, blk_far h.on e3.symm _, blk_far h.of e4.symm _, h.lix, h.llo, h.lon, h.lof,
    Kd.R_mono (Kd.R_far hr' (fun k hk => hk.2.2.2) _) (fun k hk => ⟨hk.1, hk.2.1, hk.2.2.1⟩), h.ne, h.ge, below_set h.below h.ge.1⟩
end

/-- What is asked of the function that tells a node's edges: called at whatever world keeps what was, it hands back a row that was there. -/
def NextOk (gN : Nat) (lb : Array Value) (nx : Int → List Int) (n : Nat) (w0 : World) : Prop :=
  (∀ (args : Array Value) (W : World), (callFunc gN args).run Try.prog W = .ok (.enter gN args) W) ∧ ∀ (W : World), Below w0.heap.size w0 W → ∀ v : Int, 0 ≤ v → v < n → Calls Try.prog gN (#[.int .i64 v] ++ lb) W fun e W' => W = W' ∧ ∃ A c, e = .returned (.slice A (nx v).length c) ∧ Kd.C (Kd.int .i64) w0 A (nx v).length (nx v)

theorem KnS.cells {w0 W : World} {B : KnB} {n : Nat} {nv vst : Value} {s : KS} (h : KnS w0 W B n nv vst s) :
    W.cell? ⟨B.g, 0, none⟩ = some nv ∧ W.cell? ⟨B.g, 1, none⟩ = some (.slice (some ⟨B.bi, 0, none⟩) n n) ∧ W.cell? ⟨B.g, 2, none⟩ = some (.slice (some ⟨B.bl, 0, none⟩) n n) ∧ W.cell? ⟨B.g, 3, none⟩ = some (.slice (some ⟨B.bo, 0, none⟩) n n) ∧
    W.cell? ⟨B.g, 4, none⟩ = some vst ∧ W.cell? ⟨B.g, 5, none⟩ = some (.slice (some ⟨B.bf, 0, none⟩) n n) ∧ W.cell? ⟨B.g, 6, none⟩ = some (.int .i64 s.ct) ∧ W.cell? ⟨B.g, 7, none⟩ = some (.int .i64 s.kn) ∧
    (∀ j, W.frozen? ⟨B.g, j, none⟩ = false) ∧ (∀ j, W.frozen? ⟨B.bi, j, none⟩ = false) ∧ (∀ j, W.frozen? ⟨B.bl, j, none⟩ = false) ∧ (∀ j, W.frozen? ⟨B.bo, j, none⟩ = false) ∧ (∀ j, W.frozen? ⟨B.bf, j, none⟩ = false) :=
  ⟨blk_cell h.blk 0, blk_cell h.blk 1, blk_cell h.blk 2, blk_cell h.blk 3, blk_cell h.blk 4, blk_cell h.blk 5, blk_cell h.blk 6, blk_cell h.blk 7, blk_frozen h.blk, blk_frozen h.ix, blk_frozen h.lo, blk_frozen h.on, blk_frozen h.of⟩

section
variable {w0 W : World} {B : KnB} {n : Nat} {nv vst : Value} {s : KS} {v : Int}
theorem KnS.atIx (h : KnS w0 W B n nv vst s) (h0 : 0 ≤ v) (h1 : v < n) : W.cell? ⟨B.bi, v.toNat, none⟩ = some (.int .i64 (ga s.ix v)) := (blk_cell h.ix _).trans (ints_at h0 (by rw [h.lix]; exact h1))
theorem KnS.atLo (h : KnS w0 W B n nv vst s) (h0 : 0 ≤ v) (h1 : v < n) : W.cell? ⟨B.bl, v.toNat, none⟩ = some (.int .i64 (ga s.lo v)) := (blk_cell h.lo _).trans (ints_at h0 (by rw [h.llo]; exact h1))
theorem KnS.atOf (h : KnS w0 W B n nv vst s) (h0 : 0 ≤ v) (h1 : v < n) : W.cell? ⟨B.bf, v.toNat, none⟩ = some (.int .i64 (ga s.of v)) := (blk_cell h.of _).trans (ints_at h0 (by rw [h.lof]; exact h1))
theorem KnS.atOn (h : KnS w0 W B n nv vst s) (h0 : 0 ≤ v) (h1 : v < n) : W.cell? ⟨B.bo, v.toNat, none⟩ = some (.bool (gb s.on v)) := (blk_cell h.on _).trans (bls_at h0 (by rw [h.lon]; exact h1))
end
theorem KnM.atOn {w0 W : World} {B : KnB} {n : Nat} {nv vst : Value} {s : KS} {v : Int} (h : KnM w0 W B n nv vst s) (h0 : 0 ≤ v) (h1 : v < n) : W.cell? ⟨B.bo, v.toNat, none⟩ = some (.bool (gb s.on v)) := (blk_cell h.on _).trans (bls_at h0 (by rw [h.lon]; exact h1))
theorem infoI : (Try.prog.info? 3).map (fun i => (i.zero, i.size, i.bytes)) = some (some (.int .i64 0), 1, 8) := by kernel_rfl
theorem KnS.fresh {w0 W : World} {B : KnB} {n : Nat} {nv vst : Value} {s : KS} (h : KnS w0 W B n nv vst s) : ∀ k, W.heap.size ≤ k → k ≠ B.bi ∧ k ≠ B.bl ∧ k ≠ B.bf := fun k hk => by
  have h1 := blk_lt h.ix
  have h2 := blk_lt h.lo
  have h3 := blk_lt h.of
  omega
theorem min_if (a b : Int) : (if b < a then b else a) = min a b := by split <;> omega
theorem last_rd {l : List Int} (h : l ≠ []) : l.getLastD 0 = rd l ((l.length : Int) - 1) := by
  have hl : 0 < l.length := List.length_pos_iff.2 h
  have e : ((l.length : Int) - 1).toNat = l.length - 1 := by omega
  rw [rd, e, List.getD_eq_getElem?_getD, ← List.getLast?_eq_getElem?, List.getLastD_eq_getLast?]
set_option maxHeartbeats 4000000 in
set_option maxRecDepth 100000 in
theorem visit_step (gN : Nat) (lb : Array Value) (nx : Int → List Int) (n : Nat) (hn : n ≤ 4096) (w0 : World) (B : KnB) (hN : NextOk gN lb nx n w0) (k : Nat)
    (ih : ∀ (s : KS) (v : Int) (vst : Value) (w : World) (s' : KS), KnS w0 w B n (.func (.func gN) #[] lb) vst s → visitK nx n k s v = some s' →
      Calls Try.prog 43 #[.pointer (some ⟨B.g, 0, none⟩), .int .i64 v] w fun e w' => e = .returned (.tuple #[]) ∧ ∃ vst', KnS w0 w' B n (.func (.func gN) #[] lb) vst' s')
    (s : KS) (v : Int) (vst : Value) (w : World) (s' : KS) (hS : KnS w0 w B n (.func (.func gN) #[] lb) vst s) (h : visitK nx n (k + 1) s v = some s') :
    Calls Try.prog 43 #[.pointer (some ⟨B.g, 0, none⟩), .int .i64 v] w fun e w' => e = .returned (.tuple #[]) ∧ ∃ vst', KnS w0 w' B n (.func (.func gN) #[] lb) vst' s' := by
    have IH := Aside0.mk ih
    clear ih
    simp only [visitK] at h
    by_cases hg : (0 ≤ v ∧ v < n) ∧ (0 ≤ s.ct ∧ s.ct < 1000000) ∧ (0 ≤ s.kn ∧ s.kn < 1000000) ∧ s.st.length < 1000000
    rotate_left
    · rw [if_neg hg] at h; cases h
    rw [if_pos hg] at h
    obtain ⟨⟨hv0, hv1⟩, ⟨hct0, hct⟩, ⟨hkn0, hkn⟩, hst⟩ := hg
    have H := Lib.hid h
    have HN := Aside0.mk hN
    clear h hN
    obtain ⟨c0, c1, c2, c3, c4, c5, c6, c7, fg, fi, fl, fo, ff⟩ := hS.cells
    have f6 := fg 6
    have HS := Aside0.mk hS
    clear hS
    go_enter Try.func43, Try.ntmps43
    go_wp2_with fail
    have HS1 := Aside0.mk (HS.out.setCt (s.ct + 1))
    generalize w.setCell ⟨B.g, 6, none⟩ (.int .i64 (s.ct + 1)) = w1 at HS1 ⊢
    clear c0 c1 c2 c3 c4 c5 c6 c7 fg fi fl fo ff f6 HS
    obtain ⟨c0, c1, c2, c3, c4, c5, c6, c7, fg, fi, fl, fo, ff⟩ := HS1.out.cells
    have d1 := HS1.out.atIx hv0 hv1
    have d2 := HS1.out.atLo hv0 hv1
    obtain ⟨x1, x2, x3, x4, x5, x6, x7⟩ := HS1.out.nes
    obtain ⟨x8, x9, x10⟩ := HS1.out.ne
    have y8 := x8.symm
    have gi := fi v.toNat
    have gl := fl v.toNat
    go_region
    have HS2 := Aside0.mk ((HS1.out.setIx v.toNat (s.ct + 1)).setLo v.toNat (s.ct + 1)).drew
    generalize ((w1.setCell ⟨B.bi, v.toNat, none⟩ (.int .i64 (s.ct + 1))).setCell ⟨B.bl, v.toNat, none⟩ (.int .i64 (s.ct + 1))).drew = w2 at HS2 ⊢
    clear c0 c1 c2 c3 c4 c5 c6 c7 fg fi fl fo ff d1 d2 gi gl HS1
    as_aux_lemma =>
    go_wp2_with fail
    obtain ⟨c0, c1, c2, c3, c4, c5, c6, c7, fg, fi, fl, fo, ff⟩ := HS2.out.cells
    obtain ⟨As, cs, eS⟩ := Kd.R_slice HS2.out.row
    subst eS
    have HF := Aside0.mk (HS2.out.fresh)
    have l1 := blk_lt HS2.out.blk
    have l2 := blk_lt HS2.out.on
    go_cut [] (fun wx => ∃ vst', Aside0 (KnS w0 wx B n (.func (.func gN) #[] lb) vst' (openK s v)))
    case first =>
      have l1 := blk_lt HS2.out.blk
      have l2 := blk_lt HS2.out.on
      refine start_ (n := 18) (S := fun w' => w'.cell? ⟨B.g, 3, none⟩ = some (.slice (some ⟨B.bo, 0, none⟩) n n) ∧ w'.cell? ⟨B.g, 4, none⟩ = some (.slice As s.st.length cs)) (ds := [15, 17]) #[false, false, false, false, false, false, false, false, false, false, false, false, false, false, false, false, false, false] (by kernel_rfl) rfl rfl (⟨c3, c4⟩) (fun hHeld => ?_)
      refine pure_ (i := 0) (N := some 34) (v := ?_) (a' := ?_) #[true, false, false, false, false, false, false, false, false, false, false, false, false, false, false, false, false, false] rfl rfl (by kernel_rfl) (fun _ _ _ h => h) (Or.inl ⟨by rfl, ?_⟩) ?_ ?_
      rotate_left
      · intro w'
        go_simp
        with_reducible rfl
      rotate_left
      · simp only [Act.put, List.setIfInBounds_toArray, List.set_cons_zero, List.set_cons_succ, i64_w, i32_w]
        rfl
      refine pure_ (i := 1) (N := some 35) (v := ?_) (a' := ?_) #[true, true, false, false, false, false, false, false, false, false, false, false, false, false, false, false, false, false] rfl rfl (by kernel_rfl) (fun _ _ _ h => h) (Or.inl ⟨by rfl, ?_⟩) ?_ ?_
      rotate_left
      · intro w'
        go_simp
        with_reducible rfl
      rotate_left
      · simp only [Act.put, List.setIfInBounds_toArray, List.set_cons_zero, List.set_cons_succ, i64_w, i32_w]
        rfl
      refine pure_ (i := 2) (N := some 36) (v := ?_) (a' := ?_) #[true, true, true, false, false, false, false, false, false, false, false, false, false, false, false, false, false, false] rfl rfl (by kernel_rfl) (fun _ _ _ h => h) (Or.inl ⟨by rfl, ?_⟩) ?_ ?_
      rotate_left
      · intro w'
        go_simp
        with_reducible rfl
      rotate_left
      · simp only [Act.put, List.setIfInBounds_toArray, List.set_cons_zero, List.set_cons_succ, i64_w, i32_w]
        rfl
      refine pure_ (i := 3) (N := some 37) (v := ?_) (a' := ?_) #[true, true, true, true, false, false, false, false, false, false, false, false, false, false, false, false, false, false] rfl rfl (by kernel_rfl) (fun _ _ _ h => h) (Or.inl ⟨by rfl, ?_⟩) ?_ ?_
      rotate_left
      · intro w'
        go_simp
        with_reducible rfl
      rotate_left
      · simp only [Act.put, List.setIfInBounds_toArray, List.set_cons_zero, List.set_cons_succ, i64_w, i32_w]
        rfl
      refine pure_ (i := 5) (N := some 39) (v := ?_) (a' := ?_) #[true, true, true, true, false, true, false, false, false, false, false, false, false, false, false, false, false, false] rfl rfl (by kernel_rfl) (fun _ _ _ h => h) (Or.inl ⟨by rfl, ?_⟩) ?_ ?_
      rotate_left
      · intro w'
        go_simp
        with_reducible rfl
      rotate_left
      · simp only [Act.put, List.setIfInBounds_toArray, List.set_cons_zero, List.set_cons_succ, i64_w, i32_w]
        rfl
      refine pure_ (i := 6) (N := some 40) (v := ?_) (a' := ?_) #[true, true, true, true, false, true, true, false, false, false, false, false, false, false, false, false, false, false] rfl rfl (by kernel_rfl) (fun _ _ _ h => h) (Or.inl ⟨by rfl, ?_⟩) ?_ ?_
      rotate_left
      · intro w'
        go_simp
        with_reducible rfl
      rotate_left
      · simp only [Act.put, List.setIfInBounds_toArray, List.set_cons_zero, List.set_cons_succ, i64_w, i32_w]
        rfl
      refine pure_ (i := 7) (N := some 41) (v := ?_) (a' := ?_) #[true, true, true, true, false, true, true, true, false, false, false, false, false, false, false, false, false, false] rfl rfl (by kernel_rfl) (fun _ _ _ h => h) (Or.inl ⟨by rfl, ?_⟩) ?_ ?_
      rotate_left
      · intro w'
        go_simp
        with_reducible rfl
      rotate_left
      · simp only [Act.put, List.setIfInBounds_toArray, List.set_cons_zero, List.set_cons_succ, i64_w, i32_w]
        rfl
      refine pure_ (i := 8) (N := some 42) (v := ?_) (a' := ?_) #[true, true, true, true, false, true, true, true, true, false, false, false, false, false, false, false, false, false] rfl rfl (by kernel_rfl) (fun _ _ _ h => h) (Or.inl ⟨by rfl, ?_⟩) ?_ ?_
      rotate_left
      · intro w'
        go_simp
        with_reducible rfl
      rotate_left
      · simp only [Act.put, List.setIfInBounds_toArray, List.set_cons_zero, List.set_cons_succ, i64_w, i32_w]
        rfl
      refine pure_ (i := 10) (N := some 44) (v := ?_) (a' := ?_) #[true, true, true, true, false, true, true, true, true, false, true, false, false, false, false, false, false, false] rfl rfl (by kernel_rfl) (fun _ _ _ h => h) (Or.inl ⟨by rfl, ?_⟩) ?_ ?_
      rotate_left
      · intro w'
        go_simp
        with_reducible rfl
      rotate_left
      · simp only [Act.put, List.setIfInBounds_toArray, List.set_cons_zero, List.set_cons_succ, i64_w, i32_w]
        rfl
      refine take_ (i := 4) (N := some 38) (v := ?_) (a' := ?_) #[true, true, true, true, true, true, true, true, true, false, true, false, false, false, false, false, false, false] rfl rfl (by kernel_rfl) (fun _ _ _ h => h) (Or.inl ⟨by rfl, ?_⟩) hHeld ?_ ?_
      rotate_left
      · rintro w' ⟨s0, s1⟩
        go_simp
        with_reducible rfl
      rotate_left
      · simp only [Act.put, List.setIfInBounds_toArray, List.set_cons_zero, List.set_cons_succ, i64_w, i32_w]
        rfl
      refine take_ (i := 9) (N := some 43) (v := ?_) (a' := ?_) #[true, true, true, true, true, true, true, true, true, true, true, false, false, false, false, false, false, false] rfl rfl (by kernel_rfl) (fun _ _ _ h => h) (Or.inl ⟨by rfl, ?_⟩) hHeld ?_ ?_
      rotate_left
      · rintro w' ⟨s0, s1⟩
        go_simp
        with_reducible rfl
      rotate_left
      · simp only [Act.put, List.setIfInBounds_toArray, List.set_cons_zero, List.set_cons_succ, i64_w, i32_w]
        rfl
      refine one_ (i := 11) (N := some 45) #[true, true, true, true, true, true, true, true, true, true, true, true, false, false, false, false, false, false] rfl rfl (by kernel_rfl) (by decide) (fun K hK => ?_)
      refine value_ (w1 := ?_) (v := ?_) (by rfl) rfl ?_ ?_
      rotate_left 2
      · go_simp
        constructor
        · rfl
        · rfl
      refine hK.out _ _ (⟨(blk_cell (blk_alloc HS2.out.drew.blk _) 3).trans rfl, (blk_cell (blk_alloc HS2.out.drew.blk _) 4).trans rfl⟩) (fun hHeld => ?_)
      clear hK K
      refine norm_ (a' := ?_) ?_ ?_
      rotate_left
      · show Act.put _ (some 45) _ = _
        simp only [Act.put, List.setIfInBounds_toArray, List.set_cons_zero, List.set_cons_succ, i64_w, i32_w]
        rfl
      refine one_ (i := 12) (N := some 46) #[true, true, true, true, true, true, true, true, true, true, true, true, true, false, false, false, false, false] rfl rfl (by kernel_rfl) (by decide) (fun K hK => ?_)
      refine Kd.R_append_step (Kd.int .i64) (w0 := w0) (W := w2.drew) w0.heap.size (by simp [Region.wanted]) (.tmp 43) (.tmp 45) 26 3 (.int .i64 0) 8 rfl Try.underlying26 infoI rfl (by decide) (by omega) (.slice As s.st.length cs) s.st v [.int .i64 v] (fun k => k ≠ B.bi ∧ k ≠ B.bl ∧ k ≠ B.bf) (fun _ => False) (by rfl) (by rfl) rfl (fun _ h => h.elim) (by exact HF.out) (HS2.out.drew.row) (below_drew HS2.out.below) (HS2.out.drew.below.size) (by omega) ?_
      intro v1 w3 hR hB hg hat
      have el : (s.st ++ [v]).length = s.st.length + 1 := by simp
      obtain ⟨Ao, co, eo⟩ := Kd.R_slice hR
      rw [el] at eo
      clear el
      subst eo
      have HM := Aside0.mk (KnM.grown HS2.out.drew hg)
      have HR := Aside0.mk hR
      clear hR hB hg hat
      refine hK.out _ _ (⟨blk_cell HM.out.blk 3, blk_cell HM.out.blk 4⟩) (fun hHeld => ?_)
      clear hK K
      refine norm_ (a' := ?_) ?_ ?_
      rotate_left
      · show Act.put _ (some 46) _ = _
        simp only [Act.put, List.setIfInBounds_toArray, List.set_cons_zero, List.set_cons_succ, i64_w, i32_w]
        rfl
      refine pure_ (i := 13) (N := some 47) (v := ?_) (a' := ?_) #[true, true, true, true, true, true, true, true, true, true, true, true, true, true, false, false, false, false] rfl rfl (by kernel_rfl) (fun _ _ _ h => h) (Or.inl ⟨by rfl, ?_⟩) ?_ ?_
      rotate_left
      · intro w'
        go_simp
        with_reducible rfl
      rotate_left
      · simp only [Act.put, List.setIfInBounds_toArray, List.set_cons_zero, List.set_cons_succ, i64_w, i32_w]
        rfl
      refine pure_ (i := 14) (N := some 48) (v := ?_) (a' := ?_) #[true, true, true, true, true, true, true, true, true, true, true, true, true, true, true, false, false, false] rfl rfl (by kernel_rfl) (fun _ _ _ h => h) (Or.inl ⟨by rfl, ?_⟩) ?_ ?_
      rotate_left
      · intro w'
        go_simp
        with_reducible rfl
      rotate_left
      · simp only [Act.put, List.setIfInBounds_toArray, List.set_cons_zero, List.set_cons_succ, i64_w, i32_w]
        rfl
      refine last_ (i := 15) (N := none) #[true, true, true, true, true, true, true, true, true, true, true, true, true, true, true, true, false, false] rfl rfl (by kernel_rfl) (by decide) (fun K hK => ?_)
      have r4 : w3.cell? ⟨B.g, 4, none⟩ = some (.slice As s.st.length cs) := blk_cell HM.out.blk 4
      have f4 := blk_frozen HM.out.blk 4
      refine skip_ (w1 := ?_) (by rfl) rfl ?_ ?_
      rotate_left
      · go_simp
        rfl
      refine hK.out _ _ ?_
      clear hK K
      refine pure_ (i := 16) (N := some 49) (v := ?_) (a' := ?_) #[true, true, true, true, true, true, true, true, true, true, true, true, true, true, true, true, true, false] rfl rfl (by kernel_rfl) (fun _ _ _ h => h) (Or.inl ⟨by rfl, ?_⟩) ?_ ?_
      rotate_left
      · intro w'
        go_simp
        with_reducible rfl
      rotate_left
      · simp only [Act.put, List.setIfInBounds_toArray, List.set_cons_zero, List.set_cons_succ, i64_w, i32_w]
        rfl
      refine last_ (i := 17) (N := none) #[true, true, true, true, true, true, true, true, true, true, true, true, true, true, true, true, true, true] rfl rfl (by kernel_rfl) (by decide) (fun K hK => ?_)
      have r5 := HM.out.atOn hv0 hv1
      have f5 := blk_frozen HM.out.on v.toNat
      have y3 := x3.symm
      refine skip_ (w1 := ?_) (by rfl) rfl ?_ ?_
      rotate_left
      · go_simp
        rfl
      refine hK.out _ _ ?_
      clear hK K
      refine done_ (by kernel_rfl) ?_
      go_wp2_with fail
      go_meet
      exact ⟨_, ⟨(HM.out.setSt HR.out).setOn v.toNat true⟩⟩
    case rest =>
      obtain ⟨vst', HS3⟩ := hcut
      as_aux_lemma =>
      clear c0 c1 c2 c3 c4 c5 c6 c7 fg fi fl fo ff HS2 HF l1 l2
      have hh := H.out
      obtain ⟨s2, hE, hSh⟩ := Option.bind_eq_some_iff.1 hh
      have HE := Aside0.mk hE
      have HSH := Aside0.mk hSh
      clear hh hE hSh H
      obtain ⟨c0, c1, c2, c3, c4, c5, c6, c7, fg, fi, fl, fo, ff⟩ := HS3.out.cells
      have hcf := HN.out.1
      go_wp2_with fail
      refine (HN.out.2 _ HS3.out.below v hv0 hv1).mono ?_
      rintro e w' ⟨rfl, A, c, rfl, hC⟩
      have HC := Aside0.mk hC
      have hlen := Kd.C_max hC
      clear hC hcf c0 c1 c2 c3 c4 c5 c6 c7 fg fi fl fo ff
      go_wp2_with fail
      clear x1 x2 x3 x4 x5 x6 x7 x8 x9 x10 y8
      go_loopw [57] (fun v57 wr => ∃ (j : Nat) (sj : KS) (vj : Value), v57 = .int .i64 j ∧ j ≤ (nx v).length ∧ Aside0 (KnS w0 wr B n (.func (.func gN) #[] lb) vj sj) ∧ Aside0 (eachK n (visitK nx n k) v ((nx v).drop j) sj = some s2)) (fun v57 _ => (nx v).length - (intOf v57).toNat)
      case atStart => exact ⟨0, _, _, rfl, Nat.zero_le _, HS3, HE⟩
      case round =>
        obtain ⟨j, sj, vj, rfl, hj, HSj, HEj⟩ := hrel
        as_aux_lemma =>
        clear HS3 HE
        by_cases hlt : j < (nx v).length
        · obtain ⟨ad, rfl, hcell⟩ := Kd.at_int (Kd.C_below (HC.out) HSj.out.below) (j : Int) (by omega) (by omega)
          have hd : (nx v).drop j = rd (nx v) j :: (nx v).drop (j + 1) := by
            rw [List.drop_eq_getElem_cons hlt]
            simp [rd, List.getD_eq_getElem?_getD, List.getElem?_eq_getElem hlt]
          have he := HEj.out
          rw [hd] at he
          clear hd HEj
          simp only [Int.toNat_natCast] at hcell
          generalize rd (nx v) j = x at hcell he
          simp only [eachK] at he
          by_cases hx : 0 ≤ x ∧ x < n
          rotate_left
          · rw [if_neg hx] at he; cases he
          rw [if_pos hx] at he
          obtain ⟨hx0, hx1⟩ := hx
          obtain ⟨c0, c1, c2, c3, c4, c5, c6, c7, fg, fi, fl, fo, ff⟩ := HSj.out.cells
          have d1 := HSj.out.atIx hx0 hx1
          by_cases hz : ga sj.ix x = 0
          · rw [if_pos hz] at he
            obtain ⟨s3, hV, he⟩ := Option.bind_eq_some_iff.1 he
            have HV := Aside0.mk hV
            have HE' := Aside0.mk he
            have t1 : (ga sj.ix x == 0) = true := by simpa using hz
            clear hV he hz
            go_wp2_with fail
            refine (IH.out sj x vj _ s3 HSj.out HV.out).mono ?_
            rintro e w1 ⟨rfl, v3, hS3⟩
            have HS3 := Aside0.mk hS3
            as_aux_lemma =>
            clear hS3 c0 c1 c2 c3 c4 c5 c6 c7 fg fi fl fo ff d1 hcell t1 HSj
            obtain ⟨c0, c1, c2, c3, c4, c5, c6, c7, fg, fi, fl, fo, ff⟩ := HS3.out.cells
            have d2 := HS3.out.atLo hv0 hv1
            have d3 := HS3.out.atLo hx0 hx1
            have f2 := fl v.toNat
            go_wp2_with fail
            go_region
            rw [min_if]
            go_wp2_with fail
            have HS4 := Aside0.mk (HS3.out.setLo v.toNat (min (ga s3.lo v) (ga s3.lo x))).drew
            go_roundw
            case rel => exact ⟨j + 1, _, _, by go_num, by omega, HS4, HE'⟩
            case measure => simp [intOf]; omega
          · rw [if_neg hz] at he
            have t1 : (ga sj.ix x == 0) = false := by simpa using hz
            have d2 := HSj.out.atOn hx0 hx1
            have d3 := HSj.out.atLo hv0 hv1
            have f2 := fl v.toNat
            clear hz
            by_cases ho : gb sj.on x = true
            · rw [if_pos ho] at he
              rw [ho] at d2
              have HE' := Aside0.mk he
              clear he ho
              go_wp2_with fail
              go_region
              rw [min_if]
              go_wp2_with fail
              have HS4 := Aside0.mk (HSj.out.setLo v.toNat (min (ga sj.lo v) (ga sj.ix x))).drew
              go_roundw
              case rel => exact ⟨j + 1, _, _, by go_num, by omega, HS4, HE'⟩
              case measure => simp [intOf]; omega
            · rw [if_neg ho] at he
              rw [Bool.eq_false_iff.2 ho] at d2
              have HE' := Aside0.mk he
              clear he ho
              go_wp2_with fail
              go_roundw
              case rel => exact ⟨j + 1, _, _, by go_num, by omega, HSj, HE'⟩
              case measure => simp [intOf]; omega
        · have he := HEj.out
          rw [List.drop_of_length_le (by omega)] at he
          simp only [eachK, Option.some.injEq] at he
          subst he
          have hh := HSH.out
          clear HEj HSH
          unfold shutK at hh
          as_aux_lemma =>
          obtain ⟨c0, c1, c2, c3, c4, c5, c6, c7, fg, fi, fl, fo, ff⟩ := HSj.out.cells
          have d2 := HSj.out.atIx hv0 hv1
          have d3 := HSj.out.atLo hv0 hv1
          by_cases hq : ga sj.lo v = ga sj.ix v
          rotate_left
          · rw [if_neg hq] at hh
            simp only [Option.some.injEq] at hh
            subst hh
            have t1 : (ga sj.lo v != ga sj.ix v) = true := by simpa using hq
            clear hq
            go_wp2_with fail
            go_region
            go_wp2_with fail
            refine bodyPost_ret (results_none rfl _ _ _) rfl ?_
            exact ⟨rfl, _, HSj.out.drew⟩
          · rw [if_pos hq] at hh
            obtain ⟨s3, hP, hh⟩ := Option.bind_eq_some_iff.1 hh
            by_cases hk3 : 0 ≤ s3.kn ∧ s3.kn < 1000000
            rotate_left
            · rw [if_neg hk3] at hh; cases hh
            rw [if_pos hk3] at hh
            simp only [Option.some.injEq] at hh
            subst hh
            obtain ⟨hk30, hk31⟩ := hk3
            have HP := Aside0.mk hP
            have t1 : (ga sj.lo v != ga sj.ix v) = false := by simpa using hq
            clear hq hP
            go_wp2_with fail
            go_region
            go_wp2_with fail
            have HS5 := Aside0.mk HSj.out.drew
            clear c0 c1 c2 c3 c4 c5 c6 c7 fg fi fl fo ff d2 d3 t1 HSj
            obtain ⟨wa, hwa⟩ : ∃ wa, wa = wr.drew := ⟨_, rfl⟩
            rw [← hwa] at HS5 ⊢
            clear hwa
            as_aux_lemma =>
            go_loopg [6] (sj.st.length + 1) (fun kq v6 wr => ∃ (wv : Int) (sq : KS) (vq : Value), v6 = .int .i64 wv ∧ Aside0 (KnS w0 wr B n (.func (.func gN) #[] lb) vq sq) ∧ Aside0 (popK n v kq sq wv = some s3) ∧ Aside0 (kq ≤ sj.st.length + 1))
            case atStart => exact ⟨-1, _, _, rfl, HS5, HP, ⟨Nat.le_refl _⟩⟩
            case round =>
              clear HS5 HP
              obtain ⟨wv, sq, vq, rfl, HSq, HPq, HKq⟩ := hrel
              as_aux_lemma =>
              have hp := HPq.out
              clear HPq
              cases gk with
              | zero => cases hp
              | succ k1 =>
                simp only [popK] at hp
                by_cases hw : wv = v
                · rw [if_pos hw] at hp
                  simp only [Option.some.injEq] at hp
                  subst hp
                  have t1 : (wv != v) = false := by simpa using hw
                  clear hw
                  obtain ⟨c0, c1, c2, c3, c4, c5, c6, c7, fg, fi, fl, fo, ff⟩ := HSq.out.cells
                  go_wp2_with fail
                  go_end0
                  exact ⟨rfl, _, HSq.out.setKn (sq.kn + 1)⟩
                · rw [if_neg hw] at hp
                  by_cases hs : sq.st = []
                  · rw [if_pos hs] at hp; cases hp
                  rw [if_neg hs] at hp
                  by_cases hx : 0 ≤ sq.st.getLastD 0 ∧ sq.st.getLastD 0 < n
                  rotate_left
                  · rw [if_neg hx] at hp; cases hp
                  rw [if_pos hx] at hp
                  have HP := Aside0.mk hp
                  have hlast := last_rd hs
                  obtain ⟨hx0, hx1⟩ := hx
                  have hpos : 0 < sq.st.length := List.length_pos_iff.2 hs
                  obtain ⟨gs, cap, rfl, _⟩ := Kd.R_form HSq.out.row hpos
                  have hcap := (Kd.R_reads' HSq.out.row).2.1
                  obtain ⟨ad, had, hcell⟩ := Kd.at_int (Kd.R_reads' HSq.out.row).2.2 ((sq.st.length : Int) - 1) (by omega) (by omega)
                  obtain rfl : ad = ⟨gs, 0, none⟩ := by simpa using had.symm
                  have hn1 : ((sq.st.length : Int) - 1).toNat = sq.st.length - 1 := by omega
                  rw [add_plain, ← hlast, hn1] at hcell
                  clear hn1
                  have hmax := Kd.C_max (Kd.R_reads' HSq.out.row).2.2
                  have t1 : (wv != v) = true := by simpa using hw
                  clear hw hs hp hlast had
                  generalize hu : sq.st.getLastD 0 = u at hcell hx0 hx1 HP
                  clear hu
                  obtain ⟨c0, c1, c2, c3, c4, c5, c6, c7, fg, fi, fl, fo, ff⟩ := HSq.out.cells
                  have i1 : 0 ≤ (sq.st.length : Int) - 1 := by omega
                  have i2 : (sq.st.length : Int) - 1 < sq.st.length := by omega
                  have i3 := IntWalk.i64_in ((sq.st.length : Int) - 1) (by omega)
                  go_wp2_with fail
                  go_region
                  clear c0 c1 c2 c3 c4 c5 c6 c7 fg fi fl fo ff hcell
                  have HS6 := Aside0.mk HSq.out.drew
                  obtain ⟨wb, hwb⟩ : ∃ wb, wb = wr.drew := ⟨_, rfl⟩
                  rw [← hwb] at HS6 ⊢
                  as_aux_lemma =>
                  clear hwb
                  obtain ⟨c0, c1, c2, c3, c4, c5, c6, c7, fg, fi, fl, fo, ff⟩ := HS6.out.cells
                  have d1 := HS6.out.atOn hx0 hx1
                  have f4 := fg 4
                  have f5 := fo u.toNat
                  have i4 : (sq.st.length : Int) - 1 ≤ cap := by omega
                  have i5 : 1 ≤ (sq.st.length : Int) := by omega
                  have hr6 := Kd.R_take (m := sq.st.length - 1) HS6.out.row (by omega)
                  rw [← List.dropLast_eq_take] at hr6
                  have HR := Aside0.mk hr6
                  clear hr6
                  obtain ⟨x1, x2, x3, x4, x5, x6, x7⟩ := HS6.out.nes
                  have y3 := x3.symm
                  go_wp2_with fail
                  refine start_ (n := 22) (S := fun w' => w'.cell? ⟨B.g, 3, none⟩ = some (.slice (some ⟨B.bo, 0, none⟩) n n) ∧ w'.cell? ⟨B.g, 4, none⟩ = some (.slice (some ⟨gs, 0, none⟩) sq.st.length cap)) (ds := [19, 21]) #[false, false, false, false, false, false, false, false, false, false, false, false, false, false, false, false, false, false, false, false, false, false] (by kernel_rfl) rfl rfl (⟨c3, c4⟩) (fun hHeld => ?_)
                  refine pure_ (i := 0) (N := some 152) (v := ?_) (a' := ?_) #[true, false, false, false, false, false, false, false, false, false, false, false, false, false, false, false, false, false, false, false, false, false] rfl rfl (by kernel_rfl) (fun _ _ _ h => h) (Or.inl ⟨by rfl, ?_⟩) ?_ ?_
                  rotate_left
                  · intro w'
                    go_simp
                    with_reducible rfl
                  rotate_left
                  · simp only [Act.put, List.setIfInBounds_toArray, List.set_cons_zero, List.set_cons_succ, i64_w, i32_w]
                    rfl
                  refine pure_ (i := 1) (N := some 153) (v := ?_) (a' := ?_) #[true, true, false, false, false, false, false, false, false, false, false, false, false, false, false, false, false, false, false, false, false, false] rfl rfl (by kernel_rfl) (fun _ _ _ h => h) (Or.inl ⟨by rfl, ?_⟩) ?_ ?_
                  rotate_left
                  · intro w'
                    go_simp
                    with_reducible rfl
                  rotate_left
                  · simp only [Act.put, List.setIfInBounds_toArray, List.set_cons_zero, List.set_cons_succ, i64_w, i32_w]
                    rfl
                  refine pure_ (i := 2) (N := some 154) (v := ?_) (a' := ?_) #[true, true, true, false, false, false, false, false, false, false, false, false, false, false, false, false, false, false, false, false, false, false] rfl rfl (by kernel_rfl) (fun _ _ _ h => h) (Or.inl ⟨by rfl, ?_⟩) ?_ ?_
                  rotate_left
                  · intro w'
                    go_simp
                    with_reducible rfl
                  rotate_left
                  · simp only [Act.put, List.setIfInBounds_toArray, List.set_cons_zero, List.set_cons_succ, i64_w, i32_w]
                    rfl
                  refine pure_ (i := 3) (N := some 155) (v := ?_) (a' := ?_) #[true, true, true, true, false, false, false, false, false, false, false, false, false, false, false, false, false, false, false, false, false, false] rfl rfl (by kernel_rfl) (fun _ _ _ h => h) (Or.inl ⟨by rfl, ?_⟩) ?_ ?_
                  rotate_left
                  · intro w'
                    go_simp
                    with_reducible rfl
                  rotate_left
                  · simp only [Act.put, List.setIfInBounds_toArray, List.set_cons_zero, List.set_cons_succ, i64_w, i32_w]
                    rfl
                  refine pure_ (i := 5) (N := some 157) (v := ?_) (a' := ?_) #[true, true, true, true, false, true, false, false, false, false, false, false, false, false, false, false, false, false, false, false, false, false] rfl rfl (by kernel_rfl) (fun _ _ _ h => h) (Or.inl ⟨by rfl, ?_⟩) ?_ ?_
                  rotate_left
                  · intro w'
                    go_simp
                    with_reducible rfl
                  rotate_left
                  · simp only [Act.put, List.setIfInBounds_toArray, List.set_cons_zero, List.set_cons_succ, i64_w, i32_w]
                    rfl
                  refine pure_ (i := 6) (N := some 158) (v := ?_) (a' := ?_) #[true, true, true, true, false, true, true, false, false, false, false, false, false, false, false, false, false, false, false, false, false, false] rfl rfl (by kernel_rfl) (fun _ _ _ h => h) (Or.inl ⟨by rfl, ?_⟩) ?_ ?_
                  rotate_left
                  · intro w'
                    go_simp
                    with_reducible rfl
                  rotate_left
                  · simp only [Act.put, List.setIfInBounds_toArray, List.set_cons_zero, List.set_cons_succ, i64_w, i32_w]
                    rfl
                  refine pure_ (i := 7) (N := some 159) (v := ?_) (a' := ?_) #[true, true, true, true, false, true, true, true, false, false, false, false, false, false, false, false, false, false, false, false, false, false] rfl rfl (by kernel_rfl) (fun _ _ _ h => h) (Or.inl ⟨by rfl, ?_⟩) ?_ ?_
                  rotate_left
                  · intro w'
                    go_simp
                    with_reducible rfl
                  rotate_left
                  · simp only [Act.put, List.setIfInBounds_toArray, List.set_cons_zero, List.set_cons_succ, i64_w, i32_w]
                    rfl
                  refine pure_ (i := 8) (N := some 160) (v := ?_) (a' := ?_) #[true, true, true, true, false, true, true, true, true, false, false, false, false, false, false, false, false, false, false, false, false, false] rfl rfl (by kernel_rfl) (fun _ _ _ h => h) (Or.inl ⟨by rfl, ?_⟩) ?_ ?_
                  rotate_left
                  · intro w'
                    go_simp
                    with_reducible rfl
                  rotate_left
                  · simp only [Act.put, List.setIfInBounds_toArray, List.set_cons_zero, List.set_cons_succ, i64_w, i32_w]
                    rfl
                  refine pure_ (i := 10) (N := some 162) (v := ?_) (a' := ?_) #[true, true, true, true, false, true, true, true, true, false, true, false, false, false, false, false, false, false, false, false, false, false] rfl rfl (by kernel_rfl) (fun _ _ _ h => h) (Or.inl ⟨by rfl, ?_⟩) ?_ ?_
                  rotate_left
                  · intro w'
                    go_simp
                    with_reducible rfl
                  rotate_left
                  · simp only [Act.put, List.setIfInBounds_toArray, List.set_cons_zero, List.set_cons_succ, i64_w, i32_w]
                    rfl
                  refine pure_ (i := 11) (N := some 163) (v := ?_) (a' := ?_) #[true, true, true, true, false, true, true, true, true, false, true, true, false, false, false, false, false, false, false, false, false, false] rfl rfl (by kernel_rfl) (fun _ _ _ h => h) (Or.inl ⟨by rfl, ?_⟩) ?_ ?_
                  rotate_left
                  · intro w'
                    go_simp
                    with_reducible rfl
                  rotate_left
                  · simp only [Act.put, List.setIfInBounds_toArray, List.set_cons_zero, List.set_cons_succ, i64_w, i32_w]
                    rfl
                  refine pure_ (i := 12) (N := some 164) (v := ?_) (a' := ?_) #[true, true, true, true, false, true, true, true, true, false, true, true, true, false, false, false, false, false, false, false, false, false] rfl rfl (by kernel_rfl) (fun _ _ _ h => h) (Or.inl ⟨by rfl, ?_⟩) ?_ ?_
                  rotate_left
                  · intro w'
                    go_simp
                    with_reducible rfl
                  rotate_left
                  · simp only [Act.put, List.setIfInBounds_toArray, List.set_cons_zero, List.set_cons_succ, i64_w, i32_w]
                    rfl
                  refine take_ (i := 4) (N := some 156) (v := ?_) (a' := ?_) #[true, true, true, true, true, true, true, true, true, false, true, true, true, false, false, false, false, false, false, false, false, false] rfl rfl (by kernel_rfl) (fun _ _ _ h => h) (Or.inl ⟨by rfl, ?_⟩) hHeld ?_ ?_
                  rotate_left
                  · rintro w' ⟨s0, s1⟩
                    go_simp
                    with_reducible rfl
                  rotate_left
                  · simp only [Act.put, List.setIfInBounds_toArray, List.set_cons_zero, List.set_cons_succ, i64_w, i32_w]
                    rfl
                  refine take_ (i := 9) (N := some 161) (v := ?_) (a' := ?_) #[true, true, true, true, true, true, true, true, true, true, true, true, true, false, false, false, false, false, false, false, false, false] rfl rfl (by kernel_rfl) (fun _ _ _ h => h) (Or.inl ⟨by rfl, ?_⟩) hHeld ?_ ?_
                  rotate_left
                  · rintro w' ⟨s0, s1⟩
                    go_simp
                    with_reducible rfl
                  rotate_left
                  · simp only [Act.put, List.setIfInBounds_toArray, List.set_cons_zero, List.set_cons_succ, i64_w, i32_w]
                    rfl
                  refine take_ (i := 13) (N := some 165) (v := ?_) (a' := ?_) #[true, true, true, true, true, true, true, true, true, true, true, true, true, true, false, false, false, false, false, false, false, false] rfl rfl (by kernel_rfl) (fun _ _ _ h => h) (Or.inl ⟨by rfl, ?_⟩) hHeld ?_ ?_
                  rotate_left
                  · rintro w' ⟨s0, s1⟩
                    go_simp
                    with_reducible rfl
                  rotate_left
                  · simp only [Act.put, List.setIfInBounds_toArray, List.set_cons_zero, List.set_cons_succ, i64_w, i32_w]
                    rfl
                  refine pure_ (i := 14) (N := some 166) (v := ?_) (a' := ?_) #[true, true, true, true, true, true, true, true, true, true, true, true, true, true, true, false, false, false, false, false, false, false] rfl rfl (by kernel_rfl) (fun _ _ _ h => h) (Or.inl ⟨by rfl, ?_⟩) ?_ ?_
                  rotate_left
                  · intro w'
                    go_simp
                    with_reducible rfl
                  rotate_left
                  · simp only [Act.put, List.setIfInBounds_toArray, List.set_cons_zero, List.set_cons_succ, i64_w, i32_w]
                    rfl
                  refine pure_ (i := 15) (N := some 167) (v := ?_) (a' := ?_) #[true, true, true, true, true, true, true, true, true, true, true, true, true, true, true, true, false, false, false, false, false, false] rfl rfl (by kernel_rfl) (fun _ _ _ h => h) (Or.inl ⟨by rfl, ?_⟩) ?_ ?_
                  rotate_left
                  · intro w'
                    go_simp
                    with_reducible rfl
                  rotate_left
                  · simp only [Act.put, List.setIfInBounds_toArray, List.set_cons_zero, List.set_cons_succ, i64_w, i32_w]
                    rfl
                  refine one_ (i := 16) (N := some 168) #[true, true, true, true, true, true, true, true, true, true, true, true, true, true, true, true, true, false, false, false, false, false] rfl rfl (by kernel_rfl) (by decide) (fun K hK => ?_)
                  refine value_ (w1 := ?_) (v := ?_) (by rfl) rfl ?_ ?_
                  rotate_left 2
                  · go_simp
                    constructor
                    · rfl
                    · rfl
                  refine hK.out _ _ (⟨c3, c4⟩) (fun hHeld => ?_)
                  clear hK K
                  refine norm_ (a' := ?_) ?_ ?_
                  rotate_left
                  · show Act.put _ (some 168) _ = _
                    simp only [Act.put, List.setIfInBounds_toArray, List.set_cons_zero, List.set_cons_succ, i64_w, i32_w]
                    rfl
                  refine pure_ (i := 17) (N := some 169) (v := ?_) (a' := ?_) #[true, true, true, true, true, true, true, true, true, true, true, true, true, true, true, true, true, true, false, false, false, false] rfl rfl (by kernel_rfl) (fun _ _ _ h => h) (Or.inl ⟨by rfl, ?_⟩) ?_ ?_
                  rotate_left
                  · intro w'
                    go_simp
                    with_reducible rfl
                  rotate_left
                  · simp only [Act.put, List.setIfInBounds_toArray, List.set_cons_zero, List.set_cons_succ, i64_w, i32_w]
                    rfl
                  refine pure_ (i := 18) (N := some 170) (v := ?_) (a' := ?_) #[true, true, true, true, true, true, true, true, true, true, true, true, true, true, true, true, true, true, true, false, false, false] rfl rfl (by kernel_rfl) (fun _ _ _ h => h) (Or.inl ⟨by rfl, ?_⟩) ?_ ?_
                  rotate_left
                  · intro w'
                    go_simp
                    with_reducible rfl
                  rotate_left
                  · simp only [Act.put, List.setIfInBounds_toArray, List.set_cons_zero, List.set_cons_succ, i64_w, i32_w]
                    rfl
                  refine last_ (i := 19) (N := none) #[true, true, true, true, true, true, true, true, true, true, true, true, true, true, true, true, true, true, true, true, false, false] rfl rfl (by kernel_rfl) (by decide) (fun K hK => ?_)
                  refine skip_ (w1 := ?_) (by rfl) rfl ?_ ?_
                  rotate_left
                  · go_simp
                    rfl
                  refine hK.out _ _ ?_
                  clear hK K
                  refine pure_ (i := 20) (N := some 171) (v := ?_) (a' := ?_) #[true, true, true, true, true, true, true, true, true, true, true, true, true, true, true, true, true, true, true, true, true, false] rfl rfl (by kernel_rfl) (fun _ _ _ h => h) (Or.inl ⟨by rfl, ?_⟩) ?_ ?_
                  rotate_left
                  · intro w'
                    go_simp
                    with_reducible rfl
                  rotate_left
                  · simp only [Act.put, List.setIfInBounds_toArray, List.set_cons_zero, List.set_cons_succ, i64_w, i32_w]
                    rfl
                  refine last_ (i := 21) (N := none) #[true, true, true, true, true, true, true, true, true, true, true, true, true, true, true, true, true, true, true, true, true, true] rfl rfl (by kernel_rfl) (by decide) (fun K hK => ?_)
                  refine skip_ (w1 := ?_) (by rfl) rfl ?_ ?_
                  rotate_left
                  · go_simp
                    rfl
                  refine hK.out _ _ ?_
                  clear hK K
                  refine done_ (by kernel_rfl) ?_
                  have HS7 := Aside0.mk (((HS6.out.M.setSt HR.out).setOn u.toNat false).drew)
                  clear c0 c1 c2 c3 c4 c5 c6 c7 fg fi fl fo ff d1 f4 f5 HS6 HR x1 x2 x3 x4 x5 x6 x7 y3 i1 i2 i3 i4 i5
                  generalize ((wb.setCell ⟨B.g, 4, none⟩ (.slice (some ⟨gs, 0, none⟩) (sq.st.length - 1) cap)).setCell ⟨B.bo, u.toNat, none⟩ (.bool false)).drew = wd at HS7 ⊢
                  as_aux_lemma =>
                  obtain ⟨c0, c1, c2, c3, c4, c5, c6, c7, fg, fi, fl, fo, ff⟩ := HS7.out.cells
                  have d1 := HS7.out.atOf hx0 hx1
                  have f5 := ff u.toNat
                  go_wp2_with fail
                  go_region
                  go_wp2_with fail
                  have HS8 := Aside0.mk ((HS7.out.setOf u.toNat sq.kn).drew)
                  go_roundg k1
                  case measure => have := HKq.out; omega
                  case rel => exact ⟨u, _, _, rfl, HS8, HP, ⟨by have := HKq.out; omega⟩⟩
end Go.Proofs.Ytpcaonkahhbgfaa.P
