-- Written by lexprint.py, a program of this session's own that runs the kit's print with turned rows. Lean checks it.
import Derived.Test.YtpcaonkahhbgfaaPx0
import Derived.Test.YtpcaonkahhbgfaaPx5
import Derived.Test.YtpcaonkahhbgfaaPx6
import Derived.Test.YtpcaonkahhbgfaaPx7
namespace Go.Proofs.Ytpcaonkahhbgfaa.P
open Go.RowKit Go.Proofs.YtpcaonkahhbgfaaW.PrintWords Go.Proofs.YtpcaonkahhbgfaaW.PrintLast Go.Proofs.YtpcaonkahhbgfaaW.PrintMore
attribute [local go_sem] max2_int min2_int max_two min_two
set_option linter.unusedVariables false
set_option linter.unusedSimpArgs false

/-! ### theory_reader_theory: function 27 -/
def thyHd (i : Nat) : Int := bt ⟨#[116, 104, 121, 1]⟩ (i : Int)
def headT (l : List Int) : Nat → Nat → Except (Int × Int) Unit
 | 0, _ => .ok ()
 | d + 1, i => if (l.length : Int) ≤ i then .error (8, l.length) else if rd l i ≠ thyHd i then .error (1, i) else headT l d (i + 1)
def addF (q f : Int) (F : List (List Int)) : List (List Int) :=
 let F1 := F.set q.toNat (rd_L1 F q ++ [f])
 F1.set f.toNat (rd_L1 F1 f ++ [q])
def addFs (q : Int) : List Int → List (List Int) → List (List Int)
 | [], F => F
 | f :: fs, F => addFs q fs (addF q f F)
def foesT (l : List Int) (L : Int) : Nat → Int → Int → List (List Int) → Except (Int × Int) (List (List Int) × Int)
 | 0, _, p, F => .ok (F, p)
 | d + 1, q, p, F => match listT l p 64 (q + 1) L 121 with
  | .error z => .error z
  | .ok (fs, p1) => foesT l L d (q + 1) p1 (addFs q fs F)
def ruleT (l : List Int) (L p : Int) : Except (Int × Int) (S36 × Int) := match numT l p 1 3 122 with
 | .error z => .error z
 | .ok (k, p1) => match numT l p1 0 (L - 1) 122 with
  | .error z => .error z
  | .ok (h, p2) => match listT l p2 16 0 L 122 with
   | .error z => .error z
   | .ok (b, p3) => .ok (⟨k, h, b⟩, p3)
def preX {α : Type} (acc : List α) : Except (Int × Int) (List α × Int) → Except (Int × Int) (List α × Int)
 | .error z => .error z
 | .ok (xs, q) => .ok (acc ++ xs, q)
theorem preX_snoc {α : Type} (acc : List α) (x : α) (e : Except (Int × Int) (List α × Int)) : preX (acc ++ [x]) e = preX acc (preX [x] e) := by
 cases e with
 | error z => rfl
 | ok y => simp [preX]
theorem preX_nil {α : Type} (e : Except (Int × Int) (List α × Int)) : preX [] e = e := by cases e <;> rfl
def rulesT (l : List Int) (L : Int) : Nat → Int → Except (Int × Int) (List S36 × Int)
 | 0, p => .ok ([], p)
 | d + 1, p => match ruleT l L p with
  | .error z => .error z
  | .ok (r, p1) => preX [r] (rulesT l L d p1)
def beatsT (l : List Int) (n : Int) : Nat → Int → Except (Int × Int) (List (List Int) × Int)
 | 0, p => .ok ([], p)
 | d + 1, p => match listT l p 4096 0 n 123 with
  | .error z => .error z
  | .ok (b, p1) => preX [b] (beatsT l n d p1)
def tailT (l : List Int) (L : Int) (F : List (List Int)) (R : List S36) : Except (Int × Int) (List (List Int) × Int) → Except (Int × Int) (Int × List (List Int) × List S36 × List (List Int))
 | .error z => .error z
 | .ok (B, p) => if p < l.length then .error (9, p) else .ok (L, F, R, B)
def thyT (l : List Int) : Except (Int × Int) (Int × List (List Int) × List S36 × List (List Int)) := match headT l 4 0 with
 | .error z => .error z
 | .ok _ => match numT l 4 0 4096 3 with
  | .error z => .error z
  | .ok (L, p) => match foesT l L L.toNat 0 p (List.replicate L.toNat []) with
   | .error z => .error z
   | .ok (F, p1) => match numT l p1 0 4096 3 with
    | .error z => .error z
    | .ok (n, p2) => match rulesT l L n.toNat p2 with
     | .error z => .error z
     | .ok (R, p3) => tailT l L F R (beatsT l n n.toNat p3)
/-- With the check at the end. -/
def thyC (k : Nat) (l : List Int) : Option (Except (Int × Int) (Int × List (List Int) × List S36 × List (List Int))) := match thyT l with
 | .error z => some (.error z)
 | .ok (L, F, R, B) => (theory_Check.f k L F R B).bind fun c => if c.1 = 0 then some (.ok (L, F, R, B)) else some (.error (c.1, 0))
/-! what numbers and lists are read -/
theorem numT_rng {l : List Int} {p least most e v q : Int} (h : numT l p least most e = .ok (v, q)) (h0 : 0 ≤ least) (h1 : most ≤ 1000000) (h2 : least ≤ 1000000) : least ≤ v ∧ v ≤ most := by
 unfold numT at h
 simp only at h
 by_cases e0 : (ru l p).2.2 ≠ 0
 ·rw [if_pos e0] at h; cases h
 rw [if_neg e0] at h
 by_cases e1 : (ru l p).1 < IntKind.u64.wrap least
 ·rw [if_pos e1] at h; cases h
 rw [if_neg e1] at h
 by_cases e2 : IntKind.u64.wrap most < (ru l p).1
 ·rw [if_pos e2] at h; cases h
 rw [if_neg e2] at h
 by_cases e3 : most < least
 ·rw [if_pos e3] at h; cases h
 rw [if_neg e3] at h
 simp only [Except.ok.injEq, Prod.mk.injEq] at h
 obtain ⟨rfl, rfl⟩ := h
 rw [IntKind.wrap_u64] at e1 e2
 unfold wrap64
 omega
theorem lisT_rng {l : List Int} {n er : Int} (hn : n ≤ 1000000) (hn0 : 0 ≤ n) : ∀ {d : Nat} {p least : Int} {xs : List Int} {q : Int}, lisT l n er d p least = .ok (xs, q) → 0 ≤ least → least ≤ 1000000 → xs.length = d ∧ ∀ x ∈ xs, least ≤ x ∧ x < n := by
 intro d
 induction d with
 | zero => intro p least xs q h _ _; simp only [lisT, Except.ok.injEq, Prod.mk.injEq] at h; obtain ⟨rfl, rfl⟩ := h; simp
 | succ d ih =>
  intro p least xs q h h0 h1
  simp only [lisT] at h
  have ew : wrap64 (n - 1) = n - 1 := by unfold wrap64; omega
  rw [ew] at h
  rcases hx : numT l p least (n - 1) er with z | ⟨x, p1⟩
  ·rw [hx] at h; cases h
  rw [hx] at h
  simp only at h
  have hr := numT_rng hx h0 (by omega) h1
  have ew2 : wrap64 (x + 1) = x + 1 := by unfold wrap64; omega
  rw [ew2] at h
  rcases hy : lisT l n er d p1 (x + 1) with z | ⟨ys, p2⟩
  ·rw [hy] at h; cases h
  rw [hy] at h
  simp only [Except.ok.injEq, Prod.mk.injEq] at h
  obtain ⟨rfl, rfl⟩ := h
  obtain ⟨i1, i2⟩ := ih hy (by omega) (by omega)
  refine ⟨by simp [i1], fun y hy => ?_⟩
  rcases List.mem_cons.1 hy with rfl | hy
  ·omega
  ·have := i2 y hy; omega
theorem listT_rng {l : List Int} {p most least n er : Int} {xs : List Int} {q : Int} (h : listT l p most least n er = .ok (xs, q)) (hm : most ≤ 1000000) (hn : n ≤ 1000000) (hn0 : 0 ≤ n) (h0 : 0 ≤ least) (h1 : least ≤ 1000000) : (xs.length : Int) ≤ most ∧ ∀ x ∈ xs, least ≤ x ∧ x < n := by
 unfold listT at h
 rcases hx : numT l p 0 most 3 with z | ⟨c, p1⟩
 ·rw [hx] at h; cases h
 rw [hx] at h
 have hr := numT_rng hx (by omega) hm (by omega)
 obtain ⟨i1, i2⟩ := lisT_rng hn hn0 h h0 h1
 exact ⟨by omega, i2⟩
/-! the walk's memory -/
theorem H_slice_back {W : World} {base e e' g n cap : Nat} {α : Type} {d : Kd α} {ok oki okp : Nat → Prop} {xs : List (List α)} {i : Int} {c : List Value} {v1 : Value} {x' : List α}
  (hH : Kd.H (Kd.slice e d) e' W base ok (.slice (some ⟨g, 0, none⟩) n cap) xs i oki c) (h0 : 0 ≤ i) (h1 : i < n) (hR : Kd.R d e W base okp v1 x') (hok : ∀ k, okp k → oki k) :
  Kd.S (Kd.slice e d) e' (W.setCell ⟨g, i.toNat, none⟩ v1) base ok (.slice (some ⟨g, 0, none⟩) n cap) (xs.set i.toNat x') := by
 have hcl : c.length = 1 := by
  obtain ⟨_, _, _, hcl, _⟩ := Kd.H_raw hH h0 h1
  exact hcl
 have hng : ∀ k, okp k → k ≠ g := by
  intro k hk he
  subst he
  have hk := hok _ hk
  obtain ⟨_, f, hR2⟩ := hH
  exact (hR2.1 k (by simp [Value.ownBlock])).2 hk
 obtain ⟨h2, h3⟩ := Kd.H_seg hH h0 h1 (seg := [v1]) (j := 0) (by show 0 + 1 ≤ 1; omega) (by intro q hq; rw [List.mem_singleton.1 hq]; exact (Kd.R_val hR).2)
 obtain ⟨c0, rfl⟩ : ∃ c0, c = [c0] := by match c, hcl with | [c0], _ => exact ⟨c0, rfl⟩
 simp only [List.take_zero, List.nil_append, List.length_singleton, Nat.zero_add, List.drop_succ_cons, List.drop_nil, List.append_nil, Nat.add_zero] at h2
 have e1 : (Kd.slice e d).sz = 1 := rfl
 rw [e1, Nat.mul_one] at h2
 simp only [World.setCells] at h2
 exact Kd.H_back h2 ⟨v1, rfl, Kd.R_far (p := ⟨g, i.toNat, none⟩) hR hng v1⟩ hok
/-- An inner row, lent for an append: what stands then. -/
theorem S_rowOut {W : World} {base e e' g n cap : Nat} {α : Type} {d : Kd α} {ok : Nat → Prop} {xs : List (List α)} {i : Int} (h : Kd.S (Kd.slice e d) e' W base ok (.slice (some ⟨g, 0, none⟩) n cap) xs) (h0 : 0 ≤ i) (h1 : i < n) (hf : ∀ k, W.heap.size ≤ k → ok k) :
  ∃ (oki : Nat → Prop) (vi : Value), W.cell? ⟨g, i.toNat, none⟩ = some vi ∧ W.frozen? ⟨g, i.toNat, none⟩ = false ∧ Kd.R d e W base (fun k => oki k ∨ W.heap.size ≤ k) vi (xs.getD i.toNat []) ∧ (∀ k, W.heap.size ≤ k → oki k ∨ W.heap.size ≤ k) ∧ (∀ k, vi.ownBlock = some k → k ≠ g ∧ ok k) ∧
   ∀ (W1 : World) (v1 : Value) (x' : List α), W.grownBy W1 vi.ownBlock → Kd.R d e W1 base (fun k => oki k ∨ W.heap.size ≤ k) v1 x' → 
    Kd.S (Kd.slice e d) e' (W1.setCell ⟨g, i.toNat, none⟩ v1) base ok (.slice (some ⟨g, 0, none⟩) n cap) (xs.set i.toNat x') := by
 obtain ⟨oki, c, hcl, ⟨vi, rfl, hR⟩, hcc, hfr, hoki, hH⟩ := Kd.S_elem h [] i h0 h1
 have e1 : (Kd.slice e d).sz = 1 := rfl
 refine ⟨oki, vi, ?_, ?_, Kd.R_mono hR (fun _ hk => .inl hk), fun _ hk => .inr hk, fun k hk => ⟨(hoki k (hR.1 k hk)).2, (hoki k (hR.1 k hk)).1⟩, ?_⟩
 ·have := hcc 0 vi rfl
  rw [e1, Nat.mul_one] at this
  exact this
 ·have := hfr 0
  rw [e1, Nat.mul_one] at this
  exact this
 ·intro W1 v1 x' hg hR1
  have hH1 := Kd.H_grown (Kd.H_widen hH) hg (fun k hk => .inl (hR.1 k hk))
  exact H_slice_back hH1 h0 h1 hR1 (fun k hk => hk.elim .inl (fun h => .inr ⟨hf k h, h⟩))
structure ThSt (w0 w W : World) (g gr gt : Nat) (l : List Int) (p L : Int) (okF okR okB : Nat → Prop) (vF vR vB : Value) (F : List (List Int)) (R : List S36) (B : List (List Int)) : Prop where
 I : WrIs w0 W g l p
 B0 : Below w0.heap.size w0 W
 K : KeepBut w W g none
 lt : g < w.heap.size
 ret : W.heap[gr]? = some (.cells #[.int .i64 0, .slice none 0 0, .slice none 0 0, .slice none 0 0] 25 (0, 0))
 hr : w.heap.size ≤ gr
 T : W.heap[gt]? = some (.cells #[.int .i64 L, vF, vR, vB] 25 (0, 0))
 ht : w.heap.size ≤ gt
 hne : gr ≠ gt
 sF : Kd.S (Kd.slice 3 (Kd.int .i64)) 26 W w.heap.size okF vF F
 sR : Kd.S k36 36 W w.heap.size okR vR R
 sB : Kd.S (Kd.slice 3 (Kd.int .i64)) 26 W w.heap.size okB vB B
theorem S_callG {α : Type} {d : Kd α} {e base g : Nat} {ok : Nat → Prop} {w w1 : World} {v : Value} {xs : List α} (h : Kd.S d e w base ok v xs) (hg : g < base) (hK : KeepBut w w1 g none) : Kd.S d e w1 base ok v xs :=
 Kd.S_mono (Kd.S_keep (Kd.S_mono (Kd.S_bound h) (ok' := fun k => ok k ∧ base ≤ k) (fun _ hk => ⟨hk.1, hk.2.1⟩)) hK (fun k hk => by have := hk.2; omega)) (fun _ hk => hk.1)
section
variable {w0 w W W1 : World} {g gr gt : Nat} {l : List Int} {p L : Int} {okF okR okB : Nat → Prop} {vF vR vB : Value} {F : List (List Int)} {R : List S36} {B : List (List Int)}
theorem ThSt.call {q : Int} (h : ThSt w0 w W g gr gt l p L okF okR okB vF vR vB F R B) (hI : WrIs w0 W1 g l q) (hB : Below w0.heap.size w0 W1) (hK : KeepBut W W1 g none) : ThSt w0 w W1 g gr gt l q L okF okR okB vF vR vB F R B :=
 ⟨hI, hB, h.K.trans hK (.inl rfl), h.lt, hK.blk h.ret (by have := h.lt; have := h.hr; omega) (by simp), h.hr, hK.blk h.T (by have := h.lt; have := h.ht; omega) (by simp), h.ht, h.hne, S_callG h.sF h.lt hK, S_callG h.sR h.lt hK, S_callG h.sB h.lt hK⟩
theorem ThSt.below (h : ThSt w0 w W g gr gt l p L okF okR okB vF vR vB F R B) (hb : Below W.heap.size W W1) : ThSt w0 w W1 g gr gt l p L okF okR okB vF vR vB F R B :=
 ⟨h.I.below hb, below_step h.B0 hb, h.K.trans (KeepBut.of_below hb g none) (.inl rfl), h.lt, blk_below h.ret hb, h.hr, blk_below h.T hb, h.ht, h.hne, Kd.S_below h.sF hb, Kd.S_below h.sR hb, Kd.S_below h.sB hb⟩
theorem ThSt.drew (h : ThSt w0 w W g gr gt l p L okF okR okB vF vR vB F R B) : ThSt w0 w W.drew g gr gt l p L okF okR okB vF vR vB F R B := h.below (below_drew (Below.refl _ _))
theorem ThSt.drewN (h : ThSt w0 w W g gr gt l p L okF okR okB vF vR vB F R B) (n : Nat) : ThSt w0 w (W.drewN n) g gr gt l p L okF okR okB vF vR vB F R B := h.below (pw_below_drewN (Below.refl _ _) n)
theorem ThSt.sz (h : ThSt w0 w W g gr gt l p L okF okR okB vF vR vB F R B) : w.heap.size ≤ W.heap.size := h.K.1
theorem ThSt.sz0 (h : ThSt w0 w W g gr gt l p L okF okR okB vF vR vB F R B) : w0.heap.size < w.heap.size := by
 obtain ⟨_, _, _, hg, _⟩ := h.I
 have := h.lt
 omega
/-- What the reader has, and the two variables, over a row that was written. -/
theorem ThSt.grownP (h : ThSt w0 w W g gr gt l p L okF okR okB vF vR vB F R B) {row : Option Nat} (hg : W.grownBy W1 row) (hr : ∀ k, row = some k → w.heap.size ≤ k ∧ k ≠ gr ∧ k ≠ gt) :
  WrIs w0 W1 g l p ∧ Below w0.heap.size w0 W1 ∧ KeepBut w W1 g none ∧ W1.heap[gr]? = some (.cells #[.int .i64 0, .slice none 0 0, .slice none 0 0, .slice none 0 0] 25 (0, 0)) ∧ W1.heap[gt]? = some (.cells #[.int .i64 L, vF, vR, vB] 25 (0, 0)) := by
 have hlt := h.lt
 have h0 := h.sz0
 have ne : ∀ k, k < w.heap.size → some k ≠ row := fun k hk e => by have := (hr k e.symm).1; omega
 obtain ⟨A, c, hb, hg', h'⟩ := h.I
 exact ⟨⟨A, c, blk_grown hb hg (ne g hlt), hg', h'⟩, h.B0.grown hg h.B0.size (fun k hk => by have := (hr k hk).1; omega), ⟨Nat.le_trans h.K.1 hg.size, fun i hi hig _ => (hg.block i (Nat.lt_of_lt_of_le hi h.K.1) (ne i hi)).trans (h.K.2 i hi hig (by simp))⟩, blk_grown h.ret hg (fun e => (hr gr e.symm).2.1 rfl), blk_grown h.T hg (fun e => (hr gt e.symm).2.2 rfl)⟩
/-- The same over a store into a block of one's own. -/
theorem ThSt.setP (h : ThSt w0 w W g gr gt l p L okF okR okB vF vR vB F R B) {b : Nat} (hb : w.heap.size ≤ b) (i : Nat) (u : Value) : WrIs w0 (W.setCell ⟨b, i, none⟩ u) g l p ∧ Below w0.heap.size w0 (W.setCell ⟨b, i, none⟩ u) ∧ KeepBut w (W.setCell ⟨b, i, none⟩ u) g none := by
 have hlt := h.lt
 have h0 := h.sz0
 obtain ⟨A, c, hb', hg', h'⟩ := h.I
 exact ⟨⟨A, c, blk_far hb' (by simp only; omega) _, hg', h'⟩, below_set h.B0 (by omega), keep_far h.K (by simpa using hb) _⟩
/-- A field of the theory is put. -/
theorem ThSt.fieldR (h : ThSt w0 w W g gr gt l p L okF okR okB vF vR vB F R B) {v : Value} {R' : List S36} (hR : Kd.S k36 36 W w.heap.size okR v R') : ThSt w0 w (W.setCell ⟨gt, 2, none⟩ v) g gr gt l p L okF okR okB vF v vB F R' B := by
 obtain ⟨h1, h2, h3⟩ := h.setP h.ht 2 v
 exact ⟨h1, h2, h3, h.lt, blk_far h.ret (by simpa using h.hne) _, h.hr, blk_put h.T 2 _ rfl, h.ht, h.hne, Kd.S_set h.sF h.T (by decide) 2 _, Kd.S_set hR h.T (by decide) 2 _, Kd.S_set h.sB h.T (by decide) 2 _⟩
theorem ThSt.fieldF (h : ThSt w0 w W g gr gt l p L okF okR okB vF vR vB F R B) {v : Value} {F' : List (List Int)} (hF : Kd.S (Kd.slice 3 (Kd.int .i64)) 26 W w.heap.size okF v F') : ThSt w0 w (W.setCell ⟨gt, 1, none⟩ v) g gr gt l p L okF okR okB v vR vB F' R B := by
 obtain ⟨h1, h2, h3⟩ := h.setP h.ht 1 v
 exact ⟨h1, h2, h3, h.lt, blk_far h.ret (by simpa using h.hne) _, h.hr, blk_put h.T 1 _ rfl, h.ht, h.hne, Kd.S_set hF h.T (by decide) 1 _, Kd.S_set h.sR h.T (by decide) 1 _, Kd.S_set h.sB h.T (by decide) 1 _⟩
theorem ThSt.fieldB (h : ThSt w0 w W g gr gt l p L okF okR okB vF vR vB F R B) {v : Value} {B' : List (List Int)} (hB : Kd.S (Kd.slice 3 (Kd.int .i64)) 26 W w.heap.size okB v B') : ThSt w0 w (W.setCell ⟨gt, 3, none⟩ v) g gr gt l p L okF okR okB vF vR v F R B' := by
 obtain ⟨h1, h2, h3⟩ := h.setP h.ht 3 v
 exact ⟨h1, h2, h3, h.lt, blk_far h.ret (by simpa using h.hne) _, h.hr, blk_put h.T 3 _ rfl, h.ht, h.hne, Kd.S_set h.sF h.T (by decide) 3 _, Kd.S_set h.sR h.T (by decide) 3 _, Kd.S_set hB h.T (by decide) 3 _⟩
end
theorem S_okB {α : Type} {d : Kd α} {e base : Nat} {ok : Nat → Prop} {w : World} {v : Value} {xs : List α} (h : Kd.S d e w base ok v xs) : ∀ k, v.ownBlock = some k → ok k := by
 obtain ⟨f, h0, _⟩ := h
 exact h0
theorem ne_of_type {W : World} {k k' t t' : Nat} {c c' : Array Value} (h : W.heap[k]? = some (.cells c t (0, 0))) (h' : W.heap[k']? = some (.cells c' t' (0, 0))) (hne : t ≠ t') : k ≠ k' := by
 rintro rfl
 rw [h] at h'
 cases h'
 exact hne rfl
theorem ThSt.okay {w0 w W : World} {g gr gt : Nat} {l : List Int} {p L : Int} {okF okR okB okF' okR' okB' : Nat → Prop} {vF vR vB : Value} {F : List (List Int)} {R : List S36} {B : List (List Int)} (h : ThSt w0 w W g gr gt l p L okF okR okB vF vR vB F R B)
  (hF : Kd.S (Kd.slice 3 (Kd.int .i64)) 26 W w.heap.size okF' vF F) (hR : Kd.S k36 36 W w.heap.size okR' vR R) (hB : Kd.S (Kd.slice 3 (Kd.int .i64)) 26 W w.heap.size okB' vB B) : ThSt w0 w W g gr gt l p L okF' okR' okB' vF vR vB F R B :=
 ⟨h.I, h.B0, h.K, h.lt, h.ret, h.hr, h.T, h.ht, h.hne, hF, hR, hB⟩
theorem ThSt.far {w0 w W : World} {g gr gt : Nat} {l : List Int} {p L : Int} {okF okR okB : Nat → Prop} {vF vR vB : Value} {F : List (List Int)} {R : List S36} {B : List (List Int)} (h : ThSt w0 w W g gr gt l p L okF okR okB vF vR vB F R B) {b : Nat}
  (hb : w.heap.size ≤ b) (h1 : gr ≠ b) (h2 : gt ≠ b) (hF : ∀ k, okF k → k ≠ b) (hR : ∀ k, okR k → k ≠ b) (hB : ∀ k, okB k → k ≠ b) (i : Nat) (u : Value) : ThSt w0 w (W.setCell ⟨b, i, none⟩ u) g gr gt l p L okF okR okB vF vR vB F R B := by
 obtain ⟨a1, a2, a3⟩ := h.setP hb i u
 exact ⟨a1, a2, a3, h.lt, blk_far h.ret (by simpa using h1) _, h.hr, blk_far h.T (by simpa using h2) _, h.ht, h.hne, Kd.S_far (p := ⟨b, i, none⟩) h.sF hF _, Kd.S_far (p := ⟨b, i, none⟩) h.sR hR _, Kd.S_far (p := ⟨b, i, none⟩) h.sB hB _⟩
/-- A rule more. -/
theorem ThSt.appR {w0 w W W1 : World} {g gr gt : Nat} {l : List Int} {p L : Int} {okF okR okR' okB : Nat → Prop} {vF vR v1 : Value} {F : List (List Int)} {R R' : List S36} (h : ThSt w0 w W g gr gt l p L okF okR okB vF vR (.slice none 0 0) F R [])
  (hg : W.grownBy W1 vR.ownBlock) (ha : ∀ k, okF k → ¬ okR k) (hS : Kd.S k36 36 W1 w.heap.size okR' v1 R') : W1.heap[gt]? = some (.cells #[.int .i64 L, vF, vR, .slice none 0 0] 25 (0, 0)) ∧ ThSt w0 w (W1.setCell ⟨gt, 2, none⟩ v1) g gr gt l p L okF okR' okB vF v1 (.slice none 0 0) F R' [] := by
 obtain ⟨h1, h2, h3, h4, h5⟩ := h.grownP hg (fun k hk => by
  obtain ⟨ck, hck⟩ := Kd.S_typed h.sR k hk
  exact ⟨Kd.S_base h.sR k hk, ne_of_type hck h.ret (by decide), ne_of_type hck h.T (by decide)⟩)
 have hF := Kd.S_grown h.sF hg (fun k hk e => ha k hk (S_okB h.sR k e.symm))
 have hlt := h.lt
 have h0 := h.sz0
 have ht := h.ht
 obtain ⟨A, c', hb', hg', h'⟩ := h1
 exact ⟨h5, ⟨A, c', blk_far hb' (by simp only; omega) _, hg', h'⟩, below_set h2 (by omega), keep_far h3 (by simpa using ht) _, hlt, blk_far h4 (by simpa using h.hne) _, h.hr, blk_put h5 2 _ rfl, ht, h.hne, Kd.S_set hF h5 (by decide) 2 _, Kd.S_set hS h5 (by decide) 2 _, Kd.S_nil _ _ _ _ _⟩
/-- A superiority more. -/
theorem ThSt.appB {w0 w W W1 : World} {g gr gt : Nat} {l : List Int} {p L : Int} {okF okR okB okB' : Nat → Prop} {vF vR vB v1 : Value} {F : List (List Int)} {R : List S36} {B B' : List (List Int)} (h : ThSt w0 w W g gr gt l p L okF okR okB vF vR vB F R B)
  (hg : W.grownBy W1 vB.ownBlock) (ha : ∀ k, okF k → ¬ okB k) (hb : ∀ k, okR k → ¬ okB k) (hS : Kd.S (Kd.slice 3 (Kd.int .i64)) 26 W1 w.heap.size okB' v1 B') : W1.heap[gt]? = some (.cells #[.int .i64 L, vF, vR, vB] 25 (0, 0)) ∧ ThSt w0 w (W1.setCell ⟨gt, 3, none⟩ v1) g gr gt l p L okF okR okB' vF vR v1 F R B' := by
 obtain ⟨h1, h2, h3, h4, h5⟩ := h.grownP hg (fun k hk => by
  obtain ⟨ck, hck⟩ := Kd.S_typed h.sB k hk
  exact ⟨Kd.S_base h.sB k hk, ne_of_type hck h.ret (by decide), ne_of_type hck h.T (by decide)⟩)
 have hF := Kd.S_grown h.sF hg (fun k hk e => ha k hk (S_okB h.sB k e.symm))
 have hR := Kd.S_grown h.sR hg (fun k hk e => hb k hk (S_okB h.sB k e.symm))
 have hlt := h.lt
 have h0 := h.sz0
 have ht := h.ht
 obtain ⟨A, c', hb', hg', h'⟩ := h1
 exact ⟨h5, ⟨A, c', blk_far hb' (by simp only; omega) _, hg', h'⟩, below_set h2 (by omega), keep_far h3 (by simpa using ht) _, hlt, blk_far h4 (by simpa using h.hne) _, h.hr, blk_put h5 3 _ rfl, ht, h.hne, Kd.S_set hF h5 (by decide) 3 _, Kd.S_set hR h5 (by decide) 3 _, Kd.S_set hS h5 (by decide) 3 _⟩
/-- A call that may panic. -/
theorem callP_ {P : Program} {ops : Array Oper} {Q : Exit → Act → World → Prop} {oi : Oper} {N : Option Tmp} {a : Act} {w : World} {K : Act → World → Prop} (f : FuncId) (args : Array Value) (hw : Region.wanted oi (yielded ops a.tmps) = true) (hN : oi.dst = N) (hrun : (execOp a.eval oi).run P w = .ok (.enter f args) w)
  (h : Calls P f args w fun e w' => (∃ v, e = .returned v ∧ K (a.put N v) w') ∨ (∃ ch, e = .panicked ch ∧ Q (.panic ch) a w')) : if Region.wanted oi (yielded ops a.tmps) = true then Oper.wp P oi a w K Q else K (a.put N undef) w := by
 rw [if_pos hw]
 subst hN
 unfold Oper.wp
 rw [hrun, Oper.upon_enter]
 refine h.mono fun e w'' hh => ?_
 rcases hh with ⟨v, rfl, hk⟩ | ⟨ch, rfl, hk⟩ <;> exact hk
theorem infoRu : (Try.prog.info? 36).map (fun i => (i.zero, i.size, i.bytes)) = some (some (.agg #[.int .i64 0, .int .i64 0, .slice none 0 0]), 3, 40) := by kernel_rfl
/-- A row of the foes has been appended to, and put back. -/
theorem ThSt.rowPut {w0 w W W1 : World} {g gr gt : Nat} {l : List Int} {p L : Int} {okF okR okB : Nat → Prop} {F F' : List (List Int)} {b n c : Nat} (h : ThSt w0 w W g gr gt l p L okF okR okB (.slice (some ⟨b, 0, none⟩) n c) (.slice none 0 0) (.slice none 0 0) F [] []) {vi v1 : Value} {ok : Nat → Prop} {xs : List Int} (hR : Kd.R (Kd.int .i64) 3 W w.heap.size ok vi xs) (hg : W.grownBy W1 vi.ownBlock) (i : Nat)
  (hS : Kd.S (Kd.slice 3 (Kd.int .i64)) 26 (W1.setCell ⟨b, i, none⟩ v1) w.heap.size okF (.slice (some ⟨b, 0, none⟩) n c) F') : ThSt w0 w (W1.setCell ⟨b, i, none⟩ v1) g gr gt l p L okF okR okB (.slice (some ⟨b, 0, none⟩) n c) (.slice none 0 0) (.slice none 0 0) F' [] [] := by
 have hob : (Value.slice (some ⟨b, 0, none⟩) n c).ownBlock = some b := by simp [Value.ownBlock]
 obtain ⟨cb, hcb⟩ := Kd.S_typed h.sF b hob
 have hb0 := Kd.S_base h.sF b hob
 have b1 : b ≠ gr := ne_of_type hcb h.ret (by decide)
 have b2 : b ≠ gt := ne_of_type hcb h.T (by decide)
 obtain ⟨h1, h2, h3, h4, h5⟩ := h.grownP hg (fun k hk => by
  obtain ⟨ck, hck⟩ := Kd.R_typed hR k hk
  exact ⟨Kd.R_base hR k hk, ne_of_type hck h.ret (by decide), ne_of_type hck h.T (by decide)⟩)
 have hlt := h.lt
 have h0 := h.sz0
 obtain ⟨A, c', hb', hg', h'⟩ := h1
 exact ⟨⟨A, c', blk_far hb' (by simp only; omega) _, hg', h'⟩, below_set h2 (by omega), keep_far h3 (by simpa using hb0) _, hlt, blk_far h4 (by simpa using b1.symm) _, h.hr, blk_far h5 (by simpa using b2.symm) _, h.ht, h.hne, hS, Kd.S_nil _ _ _ _ _, Kd.S_nil _ _ _ _ _⟩
theorem set_bound {F : List (List Int)} {n : Nat} (h : ∀ x ∈ F, x.length ≤ n) (i : Nat) (x' : List Int) (hx : x'.length ≤ n + 1) : ∀ x ∈ F.set i x', x.length ≤ n + 1 := by
 intro x hm
 rcases List.mem_or_eq_of_mem_set hm with hm | rfl
 ·have := h x hm; omega
 ·exact hx
theorem rdL_bound {F : List (List Int)} {n : Nat} (h : ∀ x ∈ F, x.length ≤ n) (i : Int) : (rd_L1 F i).length ≤ n := by
 unfold rd_L1
 by_cases hi : i.toNat < F.length
 ·rw [List.getD_eq_getElem?_getD, List.getElem?_eq_getElem hi]
  exact h _ (List.getElem_mem hi)
 ·rw [List.getD_eq_getElem?_getD, List.getElem?_eq_none (by omega)]
  simp
theorem infoLi : (Try.prog.info? 26).map (fun i => (i.zero, i.size, i.bytes)) = some (some (.slice none 0 0), 1, 24) := by kernel_rfl
def ThPost (w0 w : World) (g : Nat) : Except (Int × Int) (Int × List (List Int) × List S36 × List (List Int)) → Ending → World → Prop
 | .error (er, q), e, w' => FPost w0 w g er q e w'
 | .ok (L, F, R, B), e, w' => ∃ (v1 v2 v3 : Value) (N1 N2 : Nat), N1 ≤ N2 ∧ e = .returned (.agg #[.int .i64 L, v1, v2, v3]) ∧ Kd.S (Kd.slice 3 (Kd.int .i64)) 26 w' w.heap.size (fun k => k < N1) v1 F ∧ Kd.S k36 36 w' w.heap.size (fun k => N1 ≤ k ∧ k < N2) v2 R ∧ Kd.S (Kd.slice 3 (Kd.int .i64)) 26 w' w.heap.size (fun k => N2 ≤ k) v3 B ∧ Below w0.heap.size w0 w' ∧ KeepBut w w' g none
theorem WrIs.lt' {w0 W : World} {g : Nat} {l : List Int} {p : Int} (h : WrIs w0 W g l p) : g < W.heap.size := by
 obtain ⟨A, c, hb, _⟩ := h
 exact blk_lt hb
theorem thyC_head {k : Nat} {l : List Int} {z : Int × Int} {r} (h : thyC k l = some r) (hh : headT l 4 0 = .error z) : r = .error z := by
 unfold thyC thyT at h
 rw [hh] at h
 exact (Option.some.inj h).symm
set_option maxHeartbeats 4000000 in
set_option maxRecDepth 100000 in
theorem thy_any (k g : Nat) (l : List Int) (w0 w : World) (hI : WrIs w0 w g l 0) (hB : Below w0.heap.size w0 w) (hby : Bytes l) (r : Except (Int × Int) (Int × List (List Int) × List S36 × List (List Int))) (h : thyC k l = some r) :
  Calls Try.prog 27 #[.pointer (some ⟨g, 0, none⟩)] w (ThPost w0 w g r) := by
 have HI := Aside0.mk hI
 have HB := Aside0.mk hB
 have HBY := Aside0.mk hby
 have HR := Lib.hid h
 have hltg := hI.lt'
 clear h hI hB hby
 obtain ⟨E, hE⟩ : ∃ E, headT l 4 0 = E := ⟨_, rfl⟩
 have HE := Lib.hid hE
 clear hE
 go_enter Try.func27, Try.ntmps27
 go_wp2_with fail
 go_loopw [3] (fun _ wr => ∃ i : Nat, i ≤ 4 ∧ Aside0 (wr.heap[w.heap.size + 1]? = some (.stringIter (⟨#[116, 104, 121, 1]⟩ : ByteArray) i)) ∧ Aside0 (Below w.heap.size w wr) ∧ Aside0 (wr.heap[w.heap.size]? = some (.cells #[.int .i64 0, .slice none 0 0, .slice none 0 0, .slice none 0 0] 25 (0, 0))) ∧ Aside0 (E = headT l (4 - i) i)) (fun _ wr => 4 - wr.iterPos (w.heap.size + 1))
 case atStart => exact ⟨0, by omega, ⟨by have := World.iter_heap (w.alloc (.cells #[.int .i64 0, .slice none 0 0, .slice none 0 0, .slice none 0 0] 25 (0, 0))) (⟨#[116, 104, 121, 1]⟩ : ByteArray) 0; rw [World.size_alloc] at this; exact this⟩, ⟨below_alloc (below_alloc (Below.refl _ _) _) _⟩, ⟨blk_alloc (blk_new w _) _⟩, ⟨HE.out.symm⟩⟩
 case round =>
  obtain ⟨i, hi, HIt, HBw, HRt, HH⟩ := hrel
  have HPos := Lib.hid (show wr.iterPos (w.heap.size + 1) = i by simp [World.iterPos, HIt.out])
  have HBB := Aside0.mk (below_step HB.out HBw.out)
  obtain ⟨A, c, hbk0, hg0, hC, hcc⟩ := HI.out
  have hbk := blk_below hbk0 HBw.out
  have HC := Aside0.mk (Kd.C_below hC HBB.out)
  have HC0 := Aside0.mk hC
  have hmax := Kd.C_max hC
  have c0 : wr.cell? ⟨g, 0, none⟩ = some (.slice A l.length c) := (blk_cell hbk 0).trans rfl
  have HBK := Aside0.mk hbk
  have HG0 := Aside0.mk hg0
  clear hbk0 hC hcc hbk hg0
  by_cases hl4 : i < 4
  ·have hlow : bt (⟨#[116, 104, 121, 1]⟩ : ByteArray) (i : Int) < 128 := by
    match i, hl4 with
    | 0, _ => decide
    | 1, _ => decide
    | 2, _ => decide
    | 3, _ => decide
   have hxi : (((⟨#[116, 104, 121, 1]⟩ : ByteArray)[i]'(by show i < 4; exact hl4)).toNat : Int) = thyHd i := bt_at (⟨#[116, 104, 121, 1]⟩ : ByteArray) (i : Int) (show (i : Int).toNat < (⟨#[116, 104, 121, 1]⟩ : ByteArray).size from (show (i : Int).toNat < 4 by omega))
   have hnx0 : ∀ ty, (Instr.next (.pointer (some ⟨w.heap.size + 1, 0, none⟩)) true ty).run Try.prog wr = _ := fun ty => next_low (⟨#[116, 104, 121, 1]⟩ : ByteArray) i ty HIt.out hl4 hlow
   have hi1 : (setIter wr (w.heap.size + 1) (.stringIter (⟨#[116, 104, 121, 1]⟩ : ByteArray) (i + 1))).heap[w.heap.size + 1]? = some (.stringIter (⟨#[116, 104, 121, 1]⟩ : ByteArray) (i + 1)) := setIter_same (W := wr) (g := w.heap.size + 1) (Array.getElem?_eq_some_iff.1 HIt.out).1 _
   have HB1 := Aside0.mk (setIter_below HBw.out (show w.heap.size ≤ w.heap.size + 1 by omega) (.stringIter (⟨#[116, 104, 121, 1]⟩ : ByteArray) (i + 1)))
   have HR1 := Aside0.mk ((setIter_other (W := wr) (g := w.heap.size + 1) (k := w.heap.size) (by omega) (.stringIter (⟨#[116, 104, 121, 1]⟩ : ByteArray) (i + 1))).trans HRt.out)
   have HBK1 := Aside0.mk ((setIter_other (W := wr) (g := w.heap.size + 1) (k := g) (by omega) (.stringIter (⟨#[116, 104, 121, 1]⟩ : ByteArray) (i + 1))).trans HBK.out)
   obtain ⟨W1, hW1⟩ : ∃ W1, W1 = setIter wr (w.heap.size + 1) (.stringIter (⟨#[116, 104, 121, 1]⟩ : ByteArray) (i + 1)) := ⟨_, rfl⟩
   rw [← hW1] at hi1 HB1 HR1 HBK1
   have hnx : ∀ ty, (Instr.next (.pointer (some ⟨w.heap.size + 1, 0, none⟩)) true ty).run Try.prog wr = .ok (.tuple #[.bool true, .int .i64 i, .int .i32 (bt (⟨#[116, 104, 121, 1]⟩ : ByteArray) (i : Int))]) W1 := fun ty => by rw [hW1]; exact hnx0 ty
   have HI1 := Aside0.mk hi1
   have HP1 := Lib.hid (show W1.iterPos (w.heap.size + 1) = i + 1 by simp [World.iterPos, hi1])
   have HBB1 := Aside0.mk (below_step HB.out HB1.out)
   have HC1 := Aside0.mk (Kd.C_below HC0.out HBB1.out)
   clear hi1 hlow hnx0 hW1 c0 HBK HIt HRt HBw HBB HC
   have c0 : W1.cell? ⟨g, 0, none⟩ = some (.slice A l.length c) := (blk_cell HBK1.out 0).trans rfl
   obtain ⟨d, hd⟩ : ∃ d, 4 - i = d + 1 := ⟨4 - i - 1, by omega⟩
   have hh := HH.out
   rw [hd] at hh
   have HD := Lib.hid hd
   have hp0 : (0 ≤ (i : Int)) = True := eq_true (by omega)
   have hp1 : ((i : Int) < 4) = True := eq_true (by omega)
   clear hd HH
   by_cases hs : (l.length : Int) ≤ (i : Int)
   ·simp only [headT, if_pos hs] at hh
    have hr := thyC_head HR.out (HE.out.trans hh)
    subst hr
    have dd : decide (l.length ≤ i) = true := decide_eq_true (by omega)
    clear hh hs
    go_wp2_with fail
    exact ⟨rfl, rfl, HBB1.out, KeepBut.of_below HB1.out g none⟩
   ·simp only [headT, if_neg hs] at hh
    obtain ⟨ad, rfl, hel⟩ := Kd.at_int HC1.out (i : Int) (by omega) (by omega)
    simp only [Int.toNat_natCast] at hel
    have dd : decide (l.length ≤ i) = false := decide_eq_false (by omega)
    have p2 : ((i : Int) < (l.length : Int)) = True := eq_true (by omega)
    by_cases hb : rd l (i : Int) = thyHd i
    ·simp only [hb, ne_eq, not_true, if_false] at hh
     rw [hb] at hel
     have HH := Aside0.mk hh
     clear hh hs hb
     go_wp2_with fail
     go_quiet (fail)
     go_wp2_with fail
     have hd4 : d = 4 - (i + 1) := by have := HD.out; omega
     refine ⟨⟨i + 1, by omega, HI1, ⟨pw_below_drewN HB1.out _⟩, HR1, ⟨by rw [HH.out, hd4]⟩⟩, ?_⟩
     rw [HPos.out]
     have := HP1.out
     show 4 - W1.iterPos _ < _
     rw [this]
     omega
    ·simp only [hb, ne_eq, not_false_iff, if_true] at hh
     have hr := thyC_head HR.out (HE.out.trans hh)
     subst hr
     have de : (rd l (i : Int) == thyHd i) = false := by simpa using hb
     have de2 : (rd l (i : Int) != thyHd i) = true := by simpa using hb
     clear hh hs hb
     go_wp2_with fail
     go_quiet (fail)
     go_wp2_with fail
     exact ⟨rfl, rfl, pw_below_drewN HBB1.out _, keep_drewN (KeepBut.of_below HB1.out g none) _⟩
  ·obtain rfl : i = 4 := by omega
   have hh : headT l 4 0 = .ok () := HE.out.trans HH.out
   have hnx : ∀ ty, (Instr.next (.pointer (some ⟨w.heap.size + 1, 0, none⟩)) true ty).run Try.prog wr = _ := fun ty => next_end (⟨#[116, 104, 121, 1]⟩ : ByteArray) 4 ty HIt.out hl4
   have hr := HR.out
   unfold thyC thyT at hr
   rw [hh] at hr
   simp only at hr
   have fg1 := blk_frozen HBK.out 1
   have c1 : wr.cell? ⟨g, 1, none⟩ = some (.int .i64 0) := (blk_cell HBK.out 1).trans rfl
   have HW4 : Aside0 (WrIs w0 (wr.setCell ⟨g, 1, none⟩ (.int .i64 4)) g l 4) := ⟨WrIs.set (p := 0) (by obtain ⟨A', c', hb', h'⟩ := HI.out; exact ⟨A', c', blk_below hb' HBw.out, h'⟩) 4⟩
   have HB4 := Aside0.mk (below_set HBB.out HG0.out (j := 1) (v := .int .i64 4))
   have HK4 : Aside0 (KeepBut w (wr.setCell ⟨g, 1, none⟩ (.int .i64 4)) g none) := ⟨KeepBut.set_ (KeepBut.of_below HBw.out g none) 1 _⟩
   have HR4 : Aside0 ((wr.setCell ⟨g, 1, none⟩ (.int .i64 4)).heap[w.heap.size]? = _) := ⟨blk_far HRt.out (by simp; omega) _⟩
   have HRR := Lib.hid hr
   clear hh HH HR HE hr
   go_wp2_with fail
   clear c0 c1 fg1 hl4 hi HIt HRt HBw HBB HC HBK HPos hnx
   generalize wr.setCell ⟨g, 1, none⟩ (.int .i64 4) = w4 at HW4 HB4 HK4 HR4 ⊢
   as_aux_lemma =>
   have hr := HRR.out
   rcases hx : numT l 4 0 4096 3 with ⟨er, q⟩ | ⟨L, p⟩
   ·rw [hx] at hr
    obtain rfl := Option.some.inj hr
    refine (numT_bad g l 4 0 4096 3 er q w0 w4 HW4.out HB4.out HBY.out hx).mono ?_
    rintro e w5 ⟨he, hb5, hk5⟩
    unfold wrFlt at he
    subst he
    have hk6 := HK4.out.trans hk5 (.inl rfl)
    clear hx hr HRR
    go_wp2_with fail
    exact ⟨rfl, rfl, hb5, hk6⟩
   rw [hx] at hr
   simp only at hr
   refine (numT_ok g l 4 0 4096 3 L p w0 w4 HW4.out HB4.out HBY.out hx).mono ?_
   rintro e w5 ⟨rfl, hI5, hB5, hK5⟩
   obtain ⟨hL0, hL1⟩ := numT_rng hx (by omega) (by omega) (by omega)
   obtain ⟨m, rfl⟩ := Int.eq_ofNat_of_zero_le hL0
   have HI5 := Aside0.mk hI5
   have HB5 := Aside0.mk hB5
   have HK5 := Aside0.mk (HK4.out.trans hK5 (.inl rfl))
   have HR5 := Aside0.mk (hK5.blk HR4.out (by omega) (by simp))
   have HRR := Lib.hid hr
   clear hx hr hI5 hB5 hK5 hL0 HW4 HB4 HK4 HR4
   have hz5 : w.heap.size < w5.heap.size := blk_lt HR5.out
   have HT0 : Aside0 (ThSt w0 w (w5.alloc (.cells #[.int .i64 m, .slice none 0 0, .slice none 0 0, .slice none 0 0] 25 (0, 0))) g w.heap.size w5.heap.size l p m (fun _ => True) (fun _ => False) (fun _ => False) (.slice none 0 0) (.slice none 0 0) (.slice none 0 0) [] [] []) :=
    ⟨⟨HI5.out.below (below_alloc (Below.refl _ _) _), below_alloc HB5.out _, keep_alloc HK5.out _, hltg, blk_alloc HR5.out _, Nat.le_refl _, blk_new _ _, by omega, by omega, Kd.S_nil _ _ _ _ _, Kd.S_nil _ _ _ _ _, Kd.S_nil _ _ _ _ _⟩⟩
   go_upto_region 11 with ((with_reducible refine gate_dst (N := 51) rfl ?_); refine Kd.S_make (Kd.slice 3 (Kd.int .i64)) (w0 := w5.alloc (.cells #[.int .i64 m, .slice none 0 0, .slice none 0 0, .slice none 0 0] 25 (0, 0))) w.heap.size 26 rfl (N := 51) rfl 22 _ _ rfl (m : Int) rfl rfl Try.underlying22 (.slice none 0 0) 24 infoLi rfl (by decide) (by omega) [] (ok := fun _ => True) (okp := fun _ => False) ⟨.slice none 0 0, rfl, Kd.R_nil _ _ _ _ _⟩ (fun _ h => h.elim) trivial (by omega) (by omega) (Below.refl _ _) (by simp only [World.size_alloc]; omega) ?_; intro v1 w6 hS hb hg hat; obtain ⟨A1, cA, eA⟩ := Kd.S_slice hS; simp only [List.length_replicate, Int.toNat_natCast] at eA; subst eA; obtain ⟨h1, h2, h3, h4, h5⟩ := HT0.out.grownP hg (fun k hk => by cases hk); have HT1 : Aside0 (ThSt w0 w w6 g w.heap.size w5.heap.size l p m (fun _ => True) (fun _ => False) (fun _ => False) (.slice none 0 0) (.slice none 0 0) (.slice none 0 0) [] [] []) := ⟨⟨h1, h2, h3, hltg, h4, Nat.le_refl _, h5, by omega, by omega, Kd.S_nil _ _ _ _ _, Kd.S_nil _ _ _ _ _, Kd.S_nil _ _ _ _ _⟩⟩; have c1 : w6.cell? ⟨w5.heap.size, 1, none⟩ = some (.slice none 0 0) := (blk_cell h5 1).trans rfl; have f1 := blk_frozen h5 1; have HS := Aside0.mk hS; clear hS hb hg hat h1 h2 h3 h4 h5)
   have HT2 := Aside0.mk (HT1.out.fieldF HS.out)
   obtain ⟨gt, hgt⟩ : ∃ gt, gt = w5.heap.size := ⟨_, rfl⟩
   rw [← hgt] at HT2 ⊢
   clear HT0 HT1 HS c1 f1 HI5 HB5 HK5 HR5 hz5
   generalize w6.setCell ⟨gt, 1, none⟩ (.slice A1 m cA) = w7 at HT2 ⊢
   clear hgt
   as_aux_lemma =>
   have g0 : w7.cell? ⟨gt, 0, none⟩ = some (.int .i64 m) := (blk_cell HT2.out.T 0).trans rfl
   have hr := HRR.out
   simp only [Int.toNat_natCast] at hr
   obtain ⟨X, hX⟩ : ∃ X, foesT l m m 0 p (List.replicate m []) = X := ⟨_, rfl⟩
   rw [hX] at hr
   have HX := Lib.hid hX
   have HRX := Lib.hid hr
   obtain ⟨vF, hvF⟩ : ∃ vF, vF = Value.slice A1 m cA := ⟨_, rfl⟩
   rw [← hvF] at HT2
   clear hX hr HRR hvF
   go_wp2_with fail
   go_loopw [55] (fun v55 wr => ∃ (q : Nat) (pq : Int) (vq : Value) (F : List (List Int)), v55 = .int .i64 q ∧ q ≤ m ∧ Aside0 (ThSt w0 w wr g w.heap.size gt l pq m (fun _ => True) (fun _ => False) (fun _ => False) vq (.slice none 0 0) (.slice none 0 0) F [] []) ∧ Aside0 (F.length = m) ∧ Aside0 (∀ x ∈ F, x.length ≤ 128 * q) ∧ Aside0 (foesT l m (m - q) q pq F = X)) (fun v55 _ => m - (intOf v55).toNat)
   case atStart => exact ⟨0, p, _, _, rfl, Nat.zero_le _, HT2, ⟨by simp⟩, ⟨fun x hx => by rw [(List.mem_replicate.1 hx).2]; simp⟩, ⟨HX.out⟩⟩
   case round =>
    clear HT2 g0 HX
    obtain ⟨q, pq, vq, F, rfl, hq, HT, HFL, HFB, HFX⟩ := hrel
    have g0 : wr.cell? ⟨gt, 0, none⟩ = some (.int .i64 m) := (blk_cell HT.out.T 0).trans rfl
    by_cases hqm : q < m
    ·obtain ⟨d, hd⟩ : ∃ d, m - q = d + 1 := ⟨m - q - 1, by omega⟩
     have hfx := HFX.out
     rw [hd] at hfx
     simp only [foesT] at hfx
     have HD := Lib.hid hd
     obtain ⟨z, hz⟩ : ∃ z, z = listT l pq 64 ((q : Int) + 1) m 121 := ⟨_, rfl⟩
     rw [← hz] at hfx
     have hcall := listT_calls g l pq 64 ((q : Int) + 1) m 121 w0 wr HT.out.I HT.out.B0 HBY.out (by omega)
     rw [← hz] at hcall
     have HC := Aside0.mk hcall
     have HFX2 := Lib.hid hfx
     have HZ := Lib.hid hz
     have h11 : ((q : Int) + 1) ≤ 4097 := by omega
     clear hd hfx hcall hz HFX
     go_wp2_with fail
     refine HC.out.mono ?_
     rintro e w2 hpost
     rcases z with ⟨er, q2⟩ | ⟨fs, p1⟩
     ·obtain ⟨he, hb2, hk2⟩ := hpost
      have hX : X = .error (er, q2) := HFX2.out.symm
      have hr := HRX.out
      rw [hX] at hr
      obtain rfl := Option.some.inj hr
      unfold wrFlt at he
      subst he
      have hk3 := HT.out.K.trans hk2 (.inl rfl)
      clear hr hX HRX HFX2 HC HZ
      go_wp2_with fail
      exact ⟨rfl, rfl, hb2, hk3⟩
     obtain ⟨v, rfl, hR, hI2, hB2, hK2⟩ := hpost
     obtain ⟨hfl, hfs⟩ := listT_rng HZ.out.symm (by omega) (by omega) (by omega) (by omega) (by omega)
     have hsz2 := hK2.1
     have R2 := Aside0.mk (Kd.R_tight rfl hR)
     have hT2 := HT.out.call hI2 hB2 hK2
     have hbs := Kd.R_base hR
     have hT3 : Aside0 (ThSt w0 w w2 g w.heap.size gt l p1 m (fun k => some k ≠ v.ownBlock) (fun _ => False) (fun _ => False) vq (.slice none 0 0) (.slice none 0 0) F [] []) :=
      ⟨⟨hT2.I, hT2.B0, hT2.K, hT2.lt, hT2.ret, hT2.hr, hT2.T, hT2.ht, hT2.hne, S_callG (Kd.S_mono (Kd.S_bound HT.out.sF) (fun k hk e => by have := hbs k e.symm; have := hk.2.2.1; omega)) HT.out.lt hK2, hT2.sR, hT2.sB⟩⟩
     obtain ⟨Av, cv, ev⟩ := Kd.R_slice hR
     have HFS := Aside0.mk hfs
     obtain ⟨FF, hFF⟩ : ∃ FF, addFs q fs F = FF := ⟨_, rfl⟩
     have HFF := Lib.hid hFF
     have HFX3 := Lib.hid (show foesT l m d ((q : Int) + 1) p1 FF = X by rw [← hFF]; exact HFX2.out)
     have hvl : ∀ k, v.ownBlock = some k → k < w2.heap.size := Kd.R_lt hR
     have HVL := Aside0.mk hvl
     subst ev
     clear hR hI2 hB2 hK2 hT2 hbs hfs hFF HFX2 HC HZ hvl HT g0
     go_wp2_with fail
     obtain ⟨wo, hwo⟩ : ∃ wo : World, wo = wr := ⟨_, rfl⟩
     subst hwo
     go_loopw [65] (fun v65 wr => ∃ (j : Nat) (Fj : List (List Int)) (vj : Value), v65 = .int .i64 j ∧ j ≤ fs.length ∧ Aside0 (ThSt w0 w wr g w.heap.size gt l p1 m (fun k => some k ≠ (Value.slice Av fs.length cv).ownBlock) (fun _ => False) (fun _ => False) vj (.slice none 0 0) (.slice none 0 0) Fj [] []) ∧ Aside0 (Fj.length = m) ∧ Aside0 (∀ x ∈ Fj, x.length ≤ 128 * q + 2 * j) ∧ Aside0 (addFs q (fs.drop j) Fj = FF) ∧ Aside0 (Kd.R (Kd.int .i64) 3 wr wo.heap.size (fun k => some k = (Value.slice Av fs.length cv).ownBlock) (.slice Av fs.length cv) fs) ∧ Aside0 (w2.heap.size ≤ wr.heap.size)) (fun v65 _ => fs.length - (intOf v65).toNat)
     case atStart => exact ⟨0, F, vq, rfl, Nat.zero_le _, hT3, HFL, ⟨fun x hx => by have := HFB.out x hx; omega⟩, ⟨by rw [List.drop_zero]; exact HFF.out⟩, R2, ⟨Nat.le_refl _⟩⟩
     case round =>
      clear hT3 HFL HFB HFF R2
      obtain ⟨j, Fj, vj, rfl, hj, HT, HFL, HFB, HFX, HRv, HSZ⟩ := hrel
      by_cases hjl : j < fs.length
      ·obtain ⟨f, hf⟩ : ∃ f : Nat, rd fs (j : Int) = (f : Int) := ⟨(rd fs (j : Int)).toNat, by have := HFS.out _ (rd_mem hjl); omega⟩
       have hfb := HFS.out _ (rd_mem hjl)
       rw [hf] at hfb
       have hfx := HFX.out
       rw [dropR hjl, hf] at hfx
       simp only [addFs] at hfx
       obtain ⟨ad, eAd, hel⟩ := Kd.at_int (Kd.R_reads' HRv.out).2.2 (j : Int) (by omega) (by omega)
       rw [hf] at hel
       simp only [Int.toNat_natCast] at hel
       subst eAd
       have HFX2 := Lib.hid hfx
       clear hf hfx HFX
       go_upto_region 17 with fail
       clear hel
       as_aux_lemma =>
       obtain ⟨bF, cF, eF, hbF0, hbF1, cellsF, hcF⟩ := Kd.S_form HT.out.sF (by rw [HFL.out]; omega)
       rw [HFL.out] at eF
       subst eF
       obtain ⟨oki, vi, hq1, fq1, hRi, hfr, hvi, hfin⟩ := S_rowOut HT.out.drew.sF (i := (q : Int)) (by omega) (by omega) (fun k hk e => by have := HVL.out k e.symm; have := HSZ.out; have hk : wr.heap.size ≤ k := hk; omega)
       simp only [Int.toNat_natCast] at hq1 fq1 hfin
       obtain ⟨xs, hxs⟩ : ∃ xs, rd_L1 Fj (q : Int) = xs := ⟨_, rfl⟩
       have hxl : xs.length ≤ 128 * q + 2 * j := by rw [← hxs]; exact rdL_bound HFB.out _
       have hRi := (show Kd.R (Kd.int .i64) 3 _ _ _ vi xs by rw [← hxs]; simpa [rd_L1] using hRi)
       obtain ⟨Ai, ci, ei⟩ := Kd.R_slice hRi
       subst ei
       have HRi := Aside0.mk hRi
       have HFIN := Aside0.mk hfin
       have HVI := Aside0.mk hvi
       have HFR := Aside0.mk hfr
       have HXS := Lib.hid hxs
       have HCF := Aside0.mk hcF
       have hqa : (0 : Int) ≤ (q : Int) := by omega
       have hqb : (q : Int) < (m : Int) := by omega
       have c1 : wr.cell? ⟨gt, 1, none⟩ = some (.slice (some ⟨bF, 0, none⟩) m cF) := (blk_cell HT.out.T 1).trans rfl
       have hq1 : wr.cell? ⟨bF, q, none⟩ = some (.slice Ai xs.length ci) := hq1
       have hzz := HT.out.sz
       clear hRi hfin hvi hfr hxs fq1 hcF
       refine start_ (n := 13) (S := fun w' => w'.cell? ⟨gt, 1, none⟩ = some (.slice (some ⟨bF, 0, none⟩) m cF) ∧ w'.cell? ⟨bF, q, none⟩ = some (.slice Ai xs.length ci)) (ds := [12]) #[false, false, false, false, false, false, false, false, false, false, false, false, false] (by kernel_rfl) rfl rfl (⟨c1, hq1⟩) (fun hHeld => ?_)
       refine pure_ (i := 0) (N := some 69) (v := ?_) (a' := ?_) #[true, false, false, false, false, false, false, false, false, false, false, false, false] rfl rfl (by kernel_rfl) (fun _ _ _ h => h) (Or.inl ⟨by rfl, ?_⟩) ?_ ?_
       rotate_left
       ·intro w'
        go_simp
        with_reducible rfl
       rotate_left
       ·simp only [Act.put, List.setIfInBounds_toArray, List.set_cons_zero, List.set_cons_succ, i64_w, i32_w]
        rfl
       refine pure_ (i := 2) (N := some 71) (v := ?_) (a' := ?_) #[true, false, true, false, false, false, false, false, false, false, false, false, false] rfl rfl (by kernel_rfl) (fun _ _ _ h => h) (Or.inl ⟨by rfl, ?_⟩) ?_ ?_
       rotate_left
       ·intro w'
        go_simp
        with_reducible rfl
       rotate_left
       ·simp only [Act.put, List.setIfInBounds_toArray, List.set_cons_zero, List.set_cons_succ, i64_w, i32_w]
        rfl
       refine pure_ (i := 3) (N := some 72) (v := ?_) (a' := ?_) #[true, false, true, true, false, false, false, false, false, false, false, false, false] rfl rfl (by kernel_rfl) (fun _ _ _ h => h) (Or.inl ⟨by rfl, ?_⟩) ?_ ?_
       rotate_left
       ·intro w'
        go_simp
        with_reducible rfl
       rotate_left
       ·simp only [Act.put, List.setIfInBounds_toArray, List.set_cons_zero, List.set_cons_succ, i64_w, i32_w]
        rfl
       refine pure_ (i := 5) (N := some 74) (v := ?_) (a' := ?_) #[true, false, true, true, false, true, false, false, false, false, false, false, false] rfl rfl (by kernel_rfl) (fun _ _ _ h => h) (Or.inl ⟨by rfl, ?_⟩) ?_ ?_
       rotate_left
       ·intro w'
        go_simp
        with_reducible rfl
       rotate_left
       ·simp only [Act.put, List.setIfInBounds_toArray, List.set_cons_zero, List.set_cons_succ, i64_w, i32_w]
        rfl
       refine pure_ (i := 8) (N := some 77) (v := ?_) (a' := ?_) #[true, false, true, true, false, true, false, false, true, false, false, false, false] rfl rfl (by kernel_rfl) (fun _ _ _ h => h) (Or.inl ⟨by rfl, ?_⟩) ?_ ?_
       rotate_left
       ·intro w'
        go_simp
        with_reducible rfl
       rotate_left
       ·simp only [Act.put, List.setIfInBounds_toArray, List.set_cons_zero, List.set_cons_succ, i64_w, i32_w]
        rfl
       refine take_ (i := 1) (N := some 70) (v := ?_) (a' := ?_) #[true, true, true, true, false, true, false, false, true, false, false, false, false] rfl rfl (by kernel_rfl) (fun _ _ _ h => h) (Or.inl ⟨by rfl, ?_⟩) hHeld ?_ ?_
       rotate_left
       ·rintro w' ⟨s0, s1⟩
        go_simp
        with_reducible rfl
       rotate_left
       ·simp only [Act.put, List.setIfInBounds_toArray, List.set_cons_zero, List.set_cons_succ, i64_w, i32_w]
        rfl
       refine take_ (i := 4) (N := some 73) (v := ?_) (a' := ?_) #[true, true, true, true, true, true, false, false, true, false, false, false, false] rfl rfl (by kernel_rfl) (fun _ _ _ h => h) (Or.inl ⟨by rfl, ?_⟩) hHeld ?_ ?_
       rotate_left
       ·rintro w' ⟨s0, s1⟩
        go_simp
        with_reducible rfl
       rotate_left
       ·simp only [Act.put, List.setIfInBounds_toArray, List.set_cons_zero, List.set_cons_succ, i64_w, i32_w]
        rfl
       refine pure_ (i := 6) (N := some 75) (v := ?_) (a' := ?_) #[true, true, true, true, true, true, true, false, true, false, false, false, false] rfl rfl (by kernel_rfl) (fun _ _ _ h => h) (Or.inl ⟨by rfl, ?_⟩) ?_ ?_
       rotate_left
       ·intro w'
        go_simp
        with_reducible rfl
       rotate_left
       ·simp only [Act.put, List.setIfInBounds_toArray, List.set_cons_zero, List.set_cons_succ, i64_w, i32_w]
        rfl
       refine take_ (i := 7) (N := some 76) (v := ?_) (a' := ?_) #[true, true, true, true, true, true, true, true, true, false, false, false, false] rfl rfl (by kernel_rfl) (fun _ _ _ h => h) (Or.inl ⟨by rfl, ?_⟩) hHeld ?_ ?_
       rotate_left
       ·rintro w' ⟨s0, s1⟩
        go_simp
        with_reducible rfl
       rotate_left
       ·simp only [Act.put, List.setIfInBounds_toArray, List.set_cons_zero, List.set_cons_succ, i64_w, i32_w]
        rfl
       refine one_ (i := 9) (N := some 78) #[true, true, true, true, true, true, true, true, true, true, false, false, false] rfl rfl (by kernel_rfl) (by decide) (fun K hK => ?_)
       refine value_ (w1 := ?_) (v := ?_) (by rfl) rfl ?_ ?_
       rotate_left 2
       ·go_simp
        constructor
        ·rfl
        ·rfl
       refine hK.out _ _ (⟨(blk_cell (blk_alloc HT.out.drew.T _) 1).trans rfl, pw_cell_below (below_alloc (Below.refl _ _) _) hq1⟩) (fun hHeld => ?_)
       clear hK K
       refine norm_ (a' := ?_) ?_ ?_
       rotate_left
       ·show Act.put _ (some 78) _ = _
        simp only [Act.put, List.setIfInBounds_toArray, List.set_cons_zero, List.set_cons_succ, i64_w, i32_w]
        rfl
       refine one_ (i := 10) (N := some 79) #[true, true, true, true, true, true, true, true, true, true, true, false, false] rfl rfl (by kernel_rfl) (by decide) (fun K hK => ?_)
       refine Kd.R_append_step (Kd.int .i64) (w0 := wr.drew) (W := wr.drew) w.heap.size (by simp [Region.wanted]) (.tmp 76) (.tmp 78) 26 3 (.int .i64 0) 8 rfl Try.underlying26 infoI rfl (by decide) (by omega) (.slice Ai xs.length ci) xs (f : Int) [.int .i64 (f : Int)] (fun k => oki k ∨ wr.drew.heap.size ≤ k) (fun _ => False) (by rfl) (by rfl) rfl (fun _ h => h.elim) HFR.out HRi.out (Below.refl _ _) hzz (by omega) ?_
       intro vn w6 hR hB hg hat
       have HN := Aside0.mk (HFIN.out w6 vn _ hg hR)
       have HM := Aside0.mk (HT.out.drew.rowPut HRi.out hg q HN.out)
       have hT6 := (HT.out.drew.grownP hg (fun k hk => by obtain ⟨ck, hck⟩ := Kd.R_typed HRi.out k hk; exact ⟨Kd.R_base HRi.out k hk, ne_of_type hck HT.out.ret (by decide), ne_of_type hck HT.out.T (by decide)⟩)).2.2.2.2
       have hb6 := blk_grown (show wr.drew.heap[bF]? = _ from HCF.out) hg (fun e => (HVI.out bF e.symm).1 rfl)
       have HRw := Aside0.mk (Kd.R_far (p := ⟨bF, q, none⟩) (Kd.R_grown (show Kd.R _ _ wr.drew _ _ _ _ from HRv.out) hg (fun k hk e => (HVI.out k e.symm).2 hk)) (fun k hk e => S_okB HT.out.sF bF (by simp [Value.ownBlock]) (by rw [← show k = bF from e]; exact hk)) vn)
       have hsz6 := hg.size
       obtain ⟨An, cn, en⟩ := Kd.R_slice hR
       have eln : (xs ++ [(f : Int)]).length = xs.length + 1 := by simp
       rw [eln] at en
       subst en
       have hq6 : w6.cell? ⟨bF, q, none⟩ = some (.slice Ai xs.length ci) := by rw [blk_cell hb6, ← blk_cell (show wr.heap[bF]? = _ from HCF.out)]; exact hq1
       have fq6 := blk_frozen hb6 q
       have SZ6 := Aside0.mk (show wr.heap.size ≤ w6.heap.size from hsz6)
       clear hR hB hg hat eln
       refine hK.out _ _ (⟨(blk_cell hT6 1).trans rfl, hq6⟩) (fun hHeld => ?_)
       clear hK K
       refine norm_ (a' := ?_) ?_ ?_
       rotate_left
       ·show Act.put _ (some 79) _ = _
        simp only [Act.put, List.setIfInBounds_toArray, List.set_cons_zero, List.set_cons_succ, i64_w, i32_w]
        rfl
       refine pure_ (i := 11) (N := some 80) (v := ?_) (a' := ?_) #[true, true, true, true, true, true, true, true, true, true, true, true, false] rfl rfl (by kernel_rfl) (fun _ _ _ h => h) (Or.inl ⟨by rfl, ?_⟩) ?_ ?_
       rotate_left
       ·intro w'
        go_simp
        with_reducible rfl
       rotate_left
       ·simp only [Act.put, List.setIfInBounds_toArray, List.set_cons_zero, List.set_cons_succ, i64_w, i32_w]
        rfl
       refine last_ (i := 12) (N := none) #[true, true, true, true, true, true, true, true, true, true, true, true, true] rfl rfl (by kernel_rfl) (by decide) (fun K hK => ?_)
       refine skip_ (w1 := ?_) (by rfl) rfl ?_ ?_
       rotate_left
       ·go_simp
        rfl
       refine hK.out _ _ ?_
       clear hK K
       refine done_ (by kernel_rfl) ?_
       clear c1 hq1 hqa hqb hT6 hb6 hq6 fq6 hsz6 HRi HFIN HVI HFR HCF HN
       have HSZa : Aside0 (w2.heap.size ≤ (w6.setCell ⟨bF, q, none⟩ (.slice An (xs.length + 1) cn)).heap.size) := ⟨by rw [World.size_setCell]; exact Nat.le_trans HSZ.out SZ6.out⟩
       have HFLa : Aside0 ((Fj.set q (xs ++ [(f : Int)])).length = m) := ⟨by rw [List.length_set]; exact HFL.out⟩
       have HFBa := Aside0.mk (set_bound HFB.out q (xs ++ [(f : Int)]) (by simp; omega))
       obtain ⟨vF2, hv2⟩ : ∃ v, v = Value.slice (some ⟨bF, 0, none⟩) m cF := ⟨_, rfl⟩
       rw [← hv2] at HM
       obtain ⟨Fa, hFa⟩ : ∃ Fa, Fj.set q (xs ++ [(f : Int)]) = Fa := ⟨_, rfl⟩
       rw [hFa] at HM HFLa HFBa
       have HFA := Lib.hid hFa
       have HXA := HXS
       generalize w6.setCell ⟨bF, q, none⟩ (.slice An (xs.length + 1) cn) = wa at HM HRw HSZa ⊢
       clear hv2 hFa HXS HT HRv HSZ HFL HFB SZ6 hbF0 hbF1 hxl hzz cellsF
       as_aux_lemma =>
       go_upto_region 18 with fail
       obtain ⟨bF, cF, eF, hbF0, hbF1, cellsF, hcF⟩ := Kd.S_form HM.out.sF (by rw [HFLa.out]; omega)
       rw [HFLa.out] at eF
       subst eF
       obtain ⟨oki, vi, hq1, fq1, hRi, hfr, hvi, hfin⟩ := S_rowOut HM.out.drew.sF (i := (f : Int)) (by omega) (by omega) (fun k hk e => by have := HVL.out k e.symm; have := HSZa.out; have hk : wa.heap.size ≤ k := hk; omega)
       simp only [Int.toNat_natCast] at hq1 fq1 hfin
       obtain ⟨xs, hxs⟩ : ∃ xs, rd_L1 Fa (f : Int) = xs := ⟨_, rfl⟩
       have hxl : xs.length ≤ 128 * q + 2 * j + 1 := by rw [← hxs]; exact rdL_bound HFBa.out _
       have hRi := (show Kd.R (Kd.int .i64) 3 _ _ _ vi xs by rw [← hxs]; simpa [rd_L1] using hRi)
       obtain ⟨Ai, ci, ei⟩ := Kd.R_slice hRi
       subst ei
       have HRi := Aside0.mk hRi
       have HFIN := Aside0.mk hfin
       have HVI := Aside0.mk hvi
       have HFR := Aside0.mk hfr
       have HXS := Lib.hid hxs
       have HCF := Aside0.mk hcF
       have hqa : (0 : Int) ≤ (f : Int) := by omega
       have hqb : (f : Int) < (m : Int) := by omega
       have c1 : wa.cell? ⟨gt, 1, none⟩ = some (.slice (some ⟨bF, 0, none⟩) m cF) := (blk_cell HM.out.T 1).trans rfl
       have hq1 : wa.cell? ⟨bF, f, none⟩ = some (.slice Ai xs.length ci) := hq1
       have hzz := HM.out.sz
       clear hRi hfin hvi hfr hxs fq1 hcF
       refine start_ (n := 13) (S := fun w' => w'.cell? ⟨gt, 1, none⟩ = some (.slice (some ⟨bF, 0, none⟩) m cF) ∧ w'.cell? ⟨bF, f, none⟩ = some (.slice Ai xs.length ci)) (ds := [12]) #[false, false, false, false, false, false, false, false, false, false, false, false, false] (by kernel_rfl) rfl rfl (⟨c1, hq1⟩) (fun hHeld => ?_)
       refine pure_ (i := 0) (N := some 81) (v := ?_) (a' := ?_) #[true, false, false, false, false, false, false, false, false, false, false, false, false] rfl rfl (by kernel_rfl) (fun _ _ _ h => h) (Or.inl ⟨by rfl, ?_⟩) ?_ ?_
       rotate_left
       ·intro w'
        go_simp
        with_reducible rfl
       rotate_left
       ·simp only [Act.put, List.setIfInBounds_toArray, List.set_cons_zero, List.set_cons_succ, i64_w, i32_w]
        rfl
       refine pure_ (i := 2) (N := some 83) (v := ?_) (a' := ?_) #[true, false, true, false, false, false, false, false, false, false, false, false, false] rfl rfl (by kernel_rfl) (fun _ _ _ h => h) (Or.inl ⟨by rfl, ?_⟩) ?_ ?_
       rotate_left
       ·intro w'
        go_simp
        with_reducible rfl
       rotate_left
       ·simp only [Act.put, List.setIfInBounds_toArray, List.set_cons_zero, List.set_cons_succ, i64_w, i32_w]
        rfl
       refine pure_ (i := 3) (N := some 84) (v := ?_) (a' := ?_) #[true, false, true, true, false, false, false, false, false, false, false, false, false] rfl rfl (by kernel_rfl) (fun _ _ _ h => h) (Or.inl ⟨by rfl, ?_⟩) ?_ ?_
       rotate_left
       ·intro w'
        go_simp
        with_reducible rfl
       rotate_left
       ·simp only [Act.put, List.setIfInBounds_toArray, List.set_cons_zero, List.set_cons_succ, i64_w, i32_w]
        rfl
       refine pure_ (i := 5) (N := some 86) (v := ?_) (a' := ?_) #[true, false, true, true, false, true, false, false, false, false, false, false, false] rfl rfl (by kernel_rfl) (fun _ _ _ h => h) (Or.inl ⟨by rfl, ?_⟩) ?_ ?_
       rotate_left
       ·intro w'
        go_simp
        with_reducible rfl
       rotate_left
       ·simp only [Act.put, List.setIfInBounds_toArray, List.set_cons_zero, List.set_cons_succ, i64_w, i32_w]
        rfl
       refine pure_ (i := 8) (N := some 89) (v := ?_) (a' := ?_) #[true, false, true, true, false, true, false, false, true, false, false, false, false] rfl rfl (by kernel_rfl) (fun _ _ _ h => h) (Or.inl ⟨by rfl, ?_⟩) ?_ ?_
       rotate_left
       ·intro w'
        go_simp
        with_reducible rfl
       rotate_left
       ·simp only [Act.put, List.setIfInBounds_toArray, List.set_cons_zero, List.set_cons_succ, i64_w, i32_w]
        rfl
       refine take_ (i := 1) (N := some 82) (v := ?_) (a' := ?_) #[true, true, true, true, false, true, false, false, true, false, false, false, false] rfl rfl (by kernel_rfl) (fun _ _ _ h => h) (Or.inl ⟨by rfl, ?_⟩) hHeld ?_ ?_
       rotate_left
       ·rintro w' ⟨s0, s1⟩
        go_simp
        with_reducible rfl
       rotate_left
       ·simp only [Act.put, List.setIfInBounds_toArray, List.set_cons_zero, List.set_cons_succ, i64_w, i32_w]
        rfl
       refine take_ (i := 4) (N := some 85) (v := ?_) (a' := ?_) #[true, true, true, true, true, true, false, false, true, false, false, false, false] rfl rfl (by kernel_rfl) (fun _ _ _ h => h) (Or.inl ⟨by rfl, ?_⟩) hHeld ?_ ?_
       rotate_left
       ·rintro w' ⟨s0, s1⟩
        go_simp
        with_reducible rfl
       rotate_left
       ·simp only [Act.put, List.setIfInBounds_toArray, List.set_cons_zero, List.set_cons_succ, i64_w, i32_w]
        rfl
       refine pure_ (i := 6) (N := some 87) (v := ?_) (a' := ?_) #[true, true, true, true, true, true, true, false, true, false, false, false, false] rfl rfl (by kernel_rfl) (fun _ _ _ h => h) (Or.inl ⟨by rfl, ?_⟩) ?_ ?_
       rotate_left
       ·intro w'
        go_simp
        with_reducible rfl
       rotate_left
       ·simp only [Act.put, List.setIfInBounds_toArray, List.set_cons_zero, List.set_cons_succ, i64_w, i32_w]
        rfl
       refine take_ (i := 7) (N := some 88) (v := ?_) (a' := ?_) #[true, true, true, true, true, true, true, true, true, false, false, false, false] rfl rfl (by kernel_rfl) (fun _ _ _ h => h) (Or.inl ⟨by rfl, ?_⟩) hHeld ?_ ?_
       rotate_left
       ·rintro w' ⟨s0, s1⟩
        go_simp
        with_reducible rfl
       rotate_left
       ·simp only [Act.put, List.setIfInBounds_toArray, List.set_cons_zero, List.set_cons_succ, i64_w, i32_w]
        rfl
       refine one_ (i := 9) (N := some 90) #[true, true, true, true, true, true, true, true, true, true, false, false, false] rfl rfl (by kernel_rfl) (by decide) (fun K hK => ?_)
       refine value_ (w1 := ?_) (v := ?_) (by rfl) rfl ?_ ?_
       rotate_left 2
       ·go_simp
        constructor
        ·rfl
        ·rfl
       refine hK.out _ _ (⟨(blk_cell (blk_alloc HM.out.drew.T _) 1).trans rfl, pw_cell_below (below_alloc (Below.refl _ _) _) hq1⟩) (fun hHeld => ?_)
       clear hK K
       refine norm_ (a' := ?_) ?_ ?_
       rotate_left
       ·show Act.put _ (some 90) _ = _
        simp only [Act.put, List.setIfInBounds_toArray, List.set_cons_zero, List.set_cons_succ, i64_w, i32_w]
        rfl
       refine one_ (i := 10) (N := some 91) #[true, true, true, true, true, true, true, true, true, true, true, false, false] rfl rfl (by kernel_rfl) (by decide) (fun K hK => ?_)
       refine Kd.R_append_step (Kd.int .i64) (w0 := wa.drew) (W := wa.drew) w.heap.size (by simp [Region.wanted]) (.tmp 88) (.tmp 90) 26 3 (.int .i64 0) 8 rfl Try.underlying26 infoI rfl (by decide) (by omega) (.slice Ai xs.length ci) xs (q : Int) [.int .i64 (q : Int)] (fun k => oki k ∨ wa.drew.heap.size ≤ k) (fun _ => False) (by rfl) (by rfl) rfl (fun _ h => h.elim) HFR.out HRi.out (Below.refl _ _) hzz (by omega) ?_
       intro vn w6 hR hB hg hat
       have HN := Aside0.mk (HFIN.out w6 vn _ hg hR)
       have HN2 := Aside0.mk (HM.out.drew.rowPut HRi.out hg f HN.out)
       have hT6 := (HM.out.drew.grownP hg (fun k hk => by obtain ⟨ck, hck⟩ := Kd.R_typed HRi.out k hk; exact ⟨Kd.R_base HRi.out k hk, ne_of_type hck HM.out.ret (by decide), ne_of_type hck HM.out.T (by decide)⟩)).2.2.2.2
       have hb6 := blk_grown (show wa.drew.heap[bF]? = _ from HCF.out) hg (fun e => (HVI.out bF e.symm).1 rfl)
       have HRz := Aside0.mk (Kd.R_far (p := ⟨bF, f, none⟩) (Kd.R_grown (show Kd.R _ _ wa.drew _ _ _ _ from HRw.out) hg (fun k hk e => (HVI.out k e.symm).2 hk)) (fun k hk e => S_okB HM.out.sF bF (by simp [Value.ownBlock]) (by rw [← show k = bF from e]; exact hk)) vn)
       have hsz6 := hg.size
       obtain ⟨An, cn, en⟩ := Kd.R_slice hR
       have eln : (xs ++ [(q : Int)]).length = xs.length + 1 := by simp
       rw [eln] at en
       subst en
       have hq6 : w6.cell? ⟨bF, f, none⟩ = some (.slice Ai xs.length ci) := by rw [blk_cell hb6, ← blk_cell (show wa.heap[bF]? = _ from HCF.out)]; exact hq1
       have fq6 := blk_frozen hb6 f
       have SZ6 := Aside0.mk (show wa.heap.size ≤ w6.heap.size from hsz6)
       clear hR hB hg hat eln
       refine hK.out _ _ (⟨(blk_cell hT6 1).trans rfl, hq6⟩) (fun hHeld => ?_)
       clear hK K
       refine norm_ (a' := ?_) ?_ ?_
       rotate_left
       ·show Act.put _ (some 91) _ = _
        simp only [Act.put, List.setIfInBounds_toArray, List.set_cons_zero, List.set_cons_succ, i64_w, i32_w]
        rfl
       refine pure_ (i := 11) (N := some 92) (v := ?_) (a' := ?_) #[true, true, true, true, true, true, true, true, true, true, true, true, false] rfl rfl (by kernel_rfl) (fun _ _ _ h => h) (Or.inl ⟨by rfl, ?_⟩) ?_ ?_
       rotate_left
       ·intro w'
        go_simp
        with_reducible rfl
       rotate_left
       ·simp only [Act.put, List.setIfInBounds_toArray, List.set_cons_zero, List.set_cons_succ, i64_w, i32_w]
        rfl
       refine last_ (i := 12) (N := none) #[true, true, true, true, true, true, true, true, true, true, true, true, true] rfl rfl (by kernel_rfl) (by decide) (fun K hK => ?_)
       refine skip_ (w1 := ?_) (by rfl) rfl ?_ ?_
       rotate_left
       ·go_simp
        rfl
       refine hK.out _ _ ?_
       clear hK K
       refine done_ (by kernel_rfl) ?_
       clear c1 hq1 hqa hqb hT6 hb6 hq6 fq6 hsz6 HRi HFIN HVI HFR HCF HN
       have HSZb : Aside0 (w2.heap.size ≤ (w6.setCell ⟨bF, f, none⟩ (.slice An (xs.length + 1) cn)).heap.size) := ⟨by rw [World.size_setCell]; exact Nat.le_trans HSZa.out SZ6.out⟩
       have HFLb : Aside0 ((Fa.set f (xs ++ [(q : Int)])).length = m) := ⟨by rw [List.length_set]; exact HFLa.out⟩
       have HFBb := Aside0.mk (set_bound HFBa.out f (xs ++ [(q : Int)]) (by simp; omega))
       have HFXb : Aside0 (addFs q (fs.drop (j + 1)) (Fa.set f (xs ++ [(q : Int)])) = FF) := ⟨by have := HFX2.out; simp only [addF, Int.toNat_natCast, HXA.out, HFA.out, HXS.out] at this; exact this⟩
       clear HFX2 HFA HXS HXA
       generalize w6.setCell ⟨bF, f, none⟩ (.slice An (xs.length + 1) cn) = wb at HN2 HRz HSZb ⊢
       go_wp2_with fail
       go_roundw
       case rel => exact ⟨j + 1, _, _, by go_num, by omega, HN2, HFLb, ⟨fun x hx => by have := HFBb.out x hx; omega⟩, HFXb, HRz, HSZb⟩
       case measure => simp [intOf]; omega
      ·have hfx := HFX.out
       rw [List.drop_of_length_le (by omega)] at hfx
       simp only [addFs] at hfx
       subst hfx
       have HT9 := Aside0.mk (HT.out.okay (okF' := fun _ => True) (Kd.S_mono HT.out.sF (fun _ _ => trivial)) HT.out.sR HT.out.sB)
       have HFB9 : Aside0 (∀ x ∈ Fj, x.length ≤ 128 * (q + 1)) := ⟨fun x hx => by have := HFB.out x hx; omega⟩
       have HFX9 : Aside0 (foesT l m (m - (q + 1)) ((q + 1 : Nat) : Int) p1 Fj = X) := ⟨by have := HFX3.out; rwa [show m - (q + 1) = d by have := HD.out; omega, Int.natCast_succ]⟩
       clear HT HFB HRv HFX HFX3 HVL HFS
       go_wp2_with fail
       go_roundw
       case rel => exact ⟨q + 1, p1, _, Fj, by go_num, by omega, HT9, HFL, HFB9, HFX9⟩
       case measure => simp [intOf]; omega
    ·obtain rfl : q = m := by omega
     have hfx := HFX.out
     rw [Nat.sub_self] at hfx
     simp only [foesT] at hfx
     subst hfx
     have hr := HRX.out
     simp only at hr
     have HR1 := Lib.hid hr
     have HT1 := HT
     clear hr HRX HFX HT hq g0 hqm
     obtain ⟨N1, hN1⟩ : ∃ N1, N1 = wr.heap.size := ⟨_, rfl⟩
     have HT2 := Aside0.mk (HT1.out.okay (okF' := fun k => k < N1) (okR' := fun k => N1 ≤ k) (okB' := fun _ => False) (Kd.S_mono (Kd.S_bound HT1.out.sF) (fun k hk => by rw [hN1]; exact hk.2.2.1)) (Kd.S_nil _ _ _ _ _) (Kd.S_nil _ _ _ _ _))
     have HN1 := Aside0.mk (show N1 ≤ wr.heap.size by omega)
     clear hN1 HT1
     go_wp2_with fail
     rcases hx : numT l pq 0 4096 3 with ⟨er, q2⟩ | ⟨n, p2⟩
     ·refine (numT_bad g l pq 0 4096 3 er q2 w0 wr HT2.out.I HT2.out.B0 HBY.out hx).mono ?_
      rintro e w5 ⟨he, hb2, hk2⟩
      have hr := HR1.out
      rw [hx] at hr
      obtain rfl := Option.some.inj hr
      unfold wrFlt at he
      subst he
      have hk3 := HT2.out.K.trans hk2 (.inl rfl)
      clear hx hr HR1
      go_wp2_with fail
      exact ⟨rfl, rfl, hb2, hk3⟩
     refine (numT_ok g l pq 0 4096 3 n p2 w0 wr HT2.out.I HT2.out.B0 HBY.out hx).mono ?_
     rintro e w5 ⟨rfl, hI5, hB5, hK5⟩
     obtain ⟨hn0, hn1⟩ := numT_rng hx (by omega) (by omega) (by omega)
     obtain ⟨n, rfl⟩ := Int.eq_ofNat_of_zero_le hn0
     have hr := HR1.out
     rw [hx] at hr
     simp only [Int.toNat_natCast] at hr
     obtain ⟨Y, hY⟩ : ∃ Y, rulesT l q n p2 = Y := ⟨_, rfl⟩
     rw [hY] at hr
     have HY := Lib.hid hY
     have HR2 := Lib.hid hr
     have HT3 := Aside0.mk (HT2.out.call hI5 hB5 hK5)
     have HN3 := Aside0.mk (Nat.le_trans HN1.out hK5.1)
     clear hx hr hY hI5 hB5 hK5 hn0 HR1 HT2
     go_wp2_with fail
     go_loopw [98] (fun v98 wr => ∃ (i : Nat) (pi : Int) (vR : Value) (acc : List S36), v98 = .int .i64 i ∧ i ≤ n ∧ Aside0 (ThSt w0 w wr g w.heap.size gt l pi q (fun k => k < N1) (fun k => N1 ≤ k) (fun _ => False) vq vR (.slice none 0 0) F acc []) ∧ Aside0 (acc.length = i) ∧ Aside0 (preX acc (rulesT l q (n - i) pi) = Y) ∧ Aside0 (N1 ≤ wr.heap.size)) (fun v98 _ => n - (intOf v98).toNat)
     case atStart => exact ⟨0, p2, _, [], rfl, Nat.zero_le _, HT3, ⟨rfl⟩, ⟨by rw [preX_nil, Nat.sub_zero]; exact HY.out⟩, HN3⟩
     case round =>
      clear HT3 HY HN3 HN1
      obtain ⟨i, pi, vR, acc, rfl, hi, HT, HAL, HE, HNS⟩ := hrel
      by_cases hin : i < n
      ·obtain ⟨d, hd⟩ : ∃ d, n - i = d + 1 := ⟨n - i - 1, by omega⟩
       have hE := HE.out
       rw [hd] at hE
       simp only [rulesT] at hE
       have HD := Lib.hid hd
       clear hd HE
       -- the kind
       rcases hx1 : numT l pi 1 3 122 with ⟨er, q2⟩ | ⟨kd, p1⟩
       ·have HYe : Hid (Except.error (er, q2) = Y) := Lib.hid (by rw [← hE]; simp only [ruleT, hx1, preX])
        go_wp2_with fail
        refine (numT_bad g l pi 1 3 122 er q2 w0 wr HT.out.I HT.out.B0 HBY.out hx1).mono ?_
        rintro e w5 ⟨he, hb2, hk2⟩
        have hYr := HYe.out
        have hr := HR2.out
        rw [← hYr] at hr
        obtain rfl := Option.some.inj hr
        unfold wrFlt at he
        subst he
        have hk3 := HT.out.K.trans hk2 (.inl rfl)
        clear hx1 hE HYe hYr hr
        go_wp2_with fail
        exact ⟨rfl, rfl, hb2, hk3⟩
       go_wp2_with fail
       refine (numT_ok g l pi 1 3 122 kd p1 w0 wr HT.out.I HT.out.B0 HBY.out hx1).mono ?_
       rintro e w5 ⟨rfl, hI5, hB5, hK5⟩
       have HN5 := Aside0.mk (Nat.le_trans HNS.out hK5.1)
       have HT5 := Aside0.mk ((HT.out.call hI5 hB5 hK5).okay (okR' := fun k => N1 ≤ k ∧ k < w5.heap.size) (HT.out.call hI5 hB5 hK5).sF (Kd.S_mono (Kd.S_bound (HT.out.call hI5 hB5 hK5).sR) (fun k hk => ⟨hk.1, hk.2.2.1⟩)) (HT.out.call hI5 hB5 hK5).sB)
       have HX1 := Lib.hid hx1
       have HE1 := Lib.hid hE
       have HT6 := Aside0.mk (HT5.out.below (below_alloc (Below.refl _ _) (.cells #[.int .i64 kd, .int .i64 0, .slice none 0 0] 36 (0, 0))))
       have BX := Aside0.mk (blk_new w5 (.cells #[.int .i64 kd, .int .i64 0, .slice none 0 0] 36 (0, 0)))
       have n1 : w.heap.size ≠ w5.heap.size := by have := blk_lt HT5.out.ret; omega
       have n2 : gt ≠ w5.heap.size := by have := blk_lt HT5.out.T; omega
       have n3 : w.heap.size ≤ w5.heap.size := HT5.out.sz
       obtain ⟨gx, hgx⟩ : ∃ gx, gx = w5.heap.size := ⟨_, rfl⟩
       clear hx1 hE hI5 hB5 hK5 HT HNS
       go_upto_region 25 with fail
       rw [← hgx] at HT6 BX n1 n2 n3 ⊢
       have HGX := Aside0.mk (show N1 ≤ gx by rw [hgx]; exact HN5.out)
       have HGL := Aside0.mk (show gx < (w5.alloc (.cells #[.int .i64 kd, .int .i64 0, .slice none 0 0] 36 (0, 0))).heap.size by rw [World.size_alloc]; omega)
       generalize w5.alloc (.cells #[.int .i64 kd, .int .i64 0, .slice none 0 0] 36 (0, 0)) = w6 at HT6 BX HGL ⊢
       clear hgx HT5 HN5
       as_aux_lemma =>
       -- the head
       have g0 : w6.cell? ⟨gt, 0, none⟩ = some (.int .i64 q) := (blk_cell HT6.out.T 0).trans rfl
       rcases hx1 : numT l p1 0 ((q : Int) - 1) 122 with ⟨er, q2⟩ | ⟨h, p3⟩
       ·have HYe : Hid (Except.error (er, q2) = Y) := Lib.hid (by rw [← HE1.out]; simp only [ruleT, HX1.out, hx1, preX])
        go_wp2_with fail
        refine (numT_bad g l p1 0 ((q : Int) - 1) 122 er q2 w0 w6 HT6.out.I HT6.out.B0 HBY.out hx1).mono ?_
        rintro e w7 ⟨he, hb2, hk2⟩
        have hYr := HYe.out
        have hr := HR2.out
        rw [← hYr] at hr
        obtain rfl := Option.some.inj hr
        unfold wrFlt at he
        subst he
        have hk3 := HT6.out.K.trans hk2 (.inl rfl)
        clear hx1 HYe g0 HE1 HX1 hYr hr
        go_wp2_with fail
        exact ⟨rfl, rfl, hb2, hk3⟩
       go_wp2_with fail
       refine (numT_ok g l p1 0 ((q : Int) - 1) 122 h p3 w0 w6 HT6.out.I HT6.out.B0 HBY.out hx1).mono ?_
       rintro e w7 ⟨rfl, hI5, hB5, hK5⟩
       have hT7 := HT6.out.call hI5 hB5 hK5
       have hb7 := hK5.blk BX.out (by have := HT6.out.lt; omega) (by simp)
       have HT7 := Aside0.mk (hT7.far n3 n1 n2 (fun k hk => by have := HGX.out; omega) (fun k hk => by have := hk.2; omega) (fun k hk => hk.elim) 1 (.int .i64 h))
       have BX7 := Aside0.mk (blk_put hb7 1 (.int .i64 h) rfl)
       have x1 := (blk_cell hb7 1).trans rfl
       have y1 := blk_frozen hb7 1
       have HX2 := Lib.hid hx1
       have HGL7 := Aside0.mk (show gx < (w7.setCell ⟨gx, 1, none⟩ (.int .i64 h)).heap.size by rw [World.size_setCell]; exact blk_lt hb7)
       clear hx1 hI5 hB5 hK5 HT6 hT7 hb7 g0 HGL BX
       go_upto_region 26 with fail
       clear x1 y1
       generalize w7.setCell ⟨gx, 1, none⟩ (.int .i64 h) = w8 at HT7 BX7 HGL7 ⊢
       as_aux_lemma =>
       -- the body
       have g0 : w8.cell? ⟨gt, 0, none⟩ = some (.int .i64 q) := (blk_cell HT7.out.T 0).trans rfl
       obtain ⟨z, hz⟩ : ∃ z, z = listT l p3 16 0 q 122 := ⟨_, rfl⟩
       have hcall := listT_calls g l p3 16 0 q 122 w0 w8 HT7.out.I HT7.out.B0 HBY.out (by omega)
       rw [← hz] at hcall
       have HC := Aside0.mk hcall
       have HZ := Lib.hid hz
       clear hcall hz
       go_wp2_with fail
       refine HC.out.mono ?_
       rintro e w9 hpost
       rcases z with ⟨er, q2⟩ | ⟨bs, p4⟩
       ·obtain ⟨he, hb2, hk2⟩ := hpost
        have HYe : Hid (Except.error (er, q2) = Y) := Lib.hid (by rw [← HE1.out]; simp only [ruleT, HX1.out, HX2.out, ← HZ.out, preX])
        have hYr := HYe.out
        have hr := HR2.out
        rw [← hYr] at hr
        obtain rfl := Option.some.inj hr
        unfold wrFlt at he
        subst he
        have hk3 := HT7.out.K.trans hk2 (.inl rfl)
        clear HYe g0 HE1 HX1 HX2 HC HZ hYr hr
        go_wp2_with fail
        exact ⟨rfl, rfl, hb2, hk3⟩
       obtain ⟨v, rfl, hR, hI5, hB5, hK5⟩ := hpost
       have hT9 := HT7.out.call hI5 hB5 hK5
       have hb9 := hK5.blk BX7.out (by have := HT7.out.lt; omega) (by simp)
       obtain ⟨Av, cv, ev⟩ := Kd.R_slice hR
       have hRt := Kd.R_far (p := ⟨gx, 2, none⟩) (Kd.R_mono (Kd.R_bound hR) (ok' := fun k => w8.heap.size ≤ k) (fun k hk => hk.2.1)) (fun k hk => by have := HGL7.out; have hk : w8.heap.size ≤ k := hk; simp only; omega) v
       have HR9 := Aside0.mk (Kd.R_lower hRt HT7.out.sz)
       subst ev
       have HT9 := Aside0.mk (hT9.far n3 n1 n2 (fun k hk => by have := HGX.out; omega) (fun k hk => by have := hk.2; omega) (fun k hk => hk.elim) 2 (.slice Av bs.length cv))
       have BX9 := Aside0.mk (blk_put hb9 2 (.slice Av bs.length cv) rfl)
       have x2 := (blk_cell hb9 2).trans rfl
       have y2 := blk_frozen hb9 2
       have HNX := Aside0.mk (show w8.heap.size ≤ (w9.setCell ⟨gx, 2, none⟩ (.slice Av bs.length cv)).heap.size by rw [World.size_setCell]; exact hK5.1)
       clear hR hI5 hB5 hK5 HT7 hT9 hb9 hRt g0 BX7
       go_upto_region 27 with fail
       clear x2 y2
       generalize w9.setCell ⟨gx, 2, none⟩ (.slice Av bs.length cv) = w10 at HT9 BX9 HNX HR9 ⊢
       as_aux_lemma =>
       have x0 : w10.cell? ⟨gx, 0, none⟩ = some (.int .i64 kd) := (blk_cell BX9.out 0).trans rfl
       have x1 : w10.cell? ⟨gx, 1, none⟩ = some (.int .i64 h) := (blk_cell BX9.out 1).trans rfl
       have x2 : w10.cell? ⟨gx, 2, none⟩ = some (.slice Av bs.length cv) := (blk_cell BX9.out 2).trans rfl
       have c2 : w10.cell? ⟨gt, 2, none⟩ = some vR := (blk_cell HT9.out.T 2).trans rfl
       have hbase := HT9.out.sz
       have hM : k36.M w10 w.heap.size (fun k => w8.heap.size ≤ k) (⟨kd, h, bs⟩ : S36) [.int .i64 kd, .int .i64 h, .slice Av bs.length cv] := k36_mkM _ _ _ (⟨kd, h, bs⟩ : S36) HR9.out
       have hap : ∀ k, w8.heap.size ≤ k → N1 ≤ k ∧ some k ≠ vR.ownBlock := fun k hk => ⟨by have := HGX.out; have := HGL7.out; omega, fun e => by have := (S_okB HT9.out.sR k e.symm).2; have := HGL7.out; omega⟩
       have hfr : ∀ k, w10.heap.size ≤ k → N1 ≤ k := fun k hk => by have := HGX.out; have := HGL7.out; have := HNX.out; omega
       have hO : Kd.S k36 36 w10 w.heap.size (fun k => N1 ≤ k ∧ ¬ w8.heap.size ≤ k) vR acc := Kd.S_mono HT9.out.sR (fun k hk => ⟨hk.1, by have := hk.2; have := HGL7.out; omega⟩)
       have hlen : (acc.length + 1) * 40 ≤ 140737488355328 := by have := HAL.out; omega
       obtain ⟨AR, cR, eR⟩ := Kd.S_slice HT9.out.sR
       subst eR
       have HM := Aside0.mk hM
       have HAP := Aside0.mk hap
       have HFR := Aside0.mk hfr
       have HO := Aside0.mk hO
       clear hM hap hfr hO
       go_upto_region 28 with ((with_reducible refine gate_builtin (b := .append) (xs := #[.tmp 115, .tmp 117]) rfl ?_); at_builtin; refine Kd.S_append k36 (w0 := w10) w.heap.size rfl (.tmp 115) (.tmp 117) 23 36 (.agg #[.int .i64 0, .int .i64 0, .slice none 0 0]) 40 rfl Try.underlying23 infoRu rfl (by decide) (by omega) (.slice AR acc.length cR) acc (⟨kd, h, bs⟩ : S36) [.int .i64 kd, .int .i64 h, .slice Av bs.length cv] (fun k => N1 ≤ k) (fun k => w8.heap.size ≤ k) rfl rfl HM.out HAP.out HFR.out HO.out (Below.refl _ _) hbase hlen ?_; intro v1 w11 hR1 hB1 hg1 hat1; obtain ⟨hc, hT⟩ := HT9.out.appR hg1 (fun k hk hk2 => by have := hk2.1; omega) hR1; obtain ⟨Ao, co, eo⟩ := Kd.S_slice hR1; rw [show (acc ++ [(⟨kd, h, bs⟩ : S36)]).length = acc.length + 1 by simp] at eo; subst eo; have d2 := (blk_cell hc 2).trans rfl; have e2 := blk_frozen hc 2; have HTA := Aside0.mk hT; have HNA := Aside0.mk hg1.size; clear hR1 hB1 hg1 hat1 hc hT)
       clear d2 e2 x0 x1 x2 c2 hbase hlen HM HAP HFR HO HT9 BX9 HR9
       have HNB := Aside0.mk (show w10.heap.size ≤ (w11.setCell ⟨gt, 2, none⟩ (.slice Ao (acc.length + 1) co)).heap.size by rw [World.size_setCell]; exact HNA.out)
       generalize w11.setCell ⟨gt, 2, none⟩ (.slice Ao (acc.length + 1) co) = w12 at HTA HNB ⊢
       have HE9 : Aside0 (preX (acc ++ [(⟨kd, h, bs⟩ : S36)]) (rulesT l q (n - (i + 1)) p4) = Y) := ⟨by rw [preX_snoc, ← HE1.out, show n - (i + 1) = d by have := HD.out; omega]; simp only [ruleT, HX1.out, HX2.out, ← HZ.out]⟩
       have HL9 : Aside0 ((acc ++ [(⟨kd, h, bs⟩ : S36)]).length = i + 1) := ⟨by rw [List.length_append, HAL.out]; rfl⟩
       have HN9 : Aside0 (N1 ≤ w12.heap.size) := ⟨by have := HGX.out; have := HGL7.out; have := HNX.out; have := HNB.out; omega⟩
       clear HE1 HX1 HX2 HZ HC HGX HGL7 HNX HNB HNA HAL
       generalize acc ++ [(⟨kd, h, bs⟩ : S36)] = acc2 at HTA HE9 HL9
       go_wp2_with fail
       go_roundw
       case rel => exact ⟨i + 1, p4, _, acc2, by go_num, by omega, HTA, HL9, HE9, HN9⟩
       case measure => simp [intOf]; omega
      ·obtain rfl : i = n := by omega
       have hE := HE.out
       rw [Nat.sub_self] at hE
       simp only [rulesT, preX, List.append_nil] at hE
       have hr := HR2.out
       rw [← hE] at hr
       simp only at hr
       obtain ⟨N2, hN2⟩ : ∃ N2, N2 = wr.heap.size := ⟨_, rfl⟩
       have HT3 := Aside0.mk (HT.out.okay (okR' := fun k => N1 ≤ k ∧ k < N2) (okB' := fun k => N2 ≤ k) HT.out.sF (Kd.S_mono (Kd.S_bound HT.out.sR) (fun k hk => ⟨hk.1, by rw [hN2]; exact hk.2.2.1⟩)) (Kd.S_nil _ _ _ _ _))
       have HN2 := Aside0.mk (show N2 ≤ wr.heap.size by omega)
       have HN12 := Aside0.mk (show N1 ≤ N2 by rw [hN2]; exact HNS.out)
       obtain ⟨Y2, hY2⟩ : ∃ Y2, beatsT l i i pi = Y2 := ⟨_, rfl⟩
       rw [hY2] at hr
       have HR3 := Lib.hid hr
       have HY2 := Lib.hid hY2
       clear hE hr hY2 HR2 hN2 HT HE hin hi HNS
       go_wp2_with fail
       go_loopw [122] (fun v122 wr => ∃ (j : Nat) (pj : Int) (vB : Value) (bb : List (List Int)), v122 = .int .i64 j ∧ j ≤ i ∧ Aside0 (ThSt w0 w wr g w.heap.size gt l pj q (fun k => k < N1) (fun k => N1 ≤ k ∧ k < N2) (fun k => N2 ≤ k) vq vR vB F acc bb) ∧ Aside0 (bb.length = j) ∧ Aside0 (preX bb (beatsT l i (i - j) pj) = Y2) ∧ Aside0 (N2 ≤ wr.heap.size)) (fun v122 _ => i - (intOf v122).toNat)
       case atStart => exact ⟨0, pi, _, [], rfl, Nat.zero_le _, HT3, ⟨rfl⟩, ⟨by rw [preX_nil, Nat.sub_zero]; exact HY2.out⟩, HN2⟩
       case round =>
        clear HT3 HY2 HN2
        obtain ⟨j, pj, vB, bb, rfl, hj, HT, HBL, HE, HNS⟩ := hrel
        by_cases hji : j < i
        ·obtain ⟨d, hd⟩ : ∃ d, i - j = d + 1 := ⟨i - j - 1, by omega⟩
         have hE := HE.out
         rw [hd] at hE
         simp only [beatsT] at hE
         have HD := Lib.hid hd
         obtain ⟨z, hz⟩ : ∃ z, z = listT l pj 4096 0 i 123 := ⟨_, rfl⟩
         rw [← hz] at hE
         have hcall := listT_calls g l pj 4096 0 i 123 w0 wr.drew HT.out.drew.I HT.out.drew.B0 HBY.out (by omega)
         rw [← hz] at hcall
         have HC := Aside0.mk hcall
         have HZ := Lib.hid hz
         have HE1 := Lib.hid hE
         have c3 : wr.cell? ⟨gt, 3, none⟩ = some vB := (blk_cell HT.out.T 3).trans rfl
         obtain ⟨AB, cB, eB⟩ := Kd.S_slice HT.out.sB
         subst eB
         clear hd hE hcall hz HE
         go_upto_region 31 with fail
         refine start_ (n := 9) (S := fun w' => w'.cell? ⟨gt, 3, none⟩ = some (.slice AB bb.length cB)) (ds := [8]) #[false, false, false, false, false, false, false, false, false] (by kernel_rfl) rfl rfl (c3) (fun hHeld => ?_)
         refine pure_ (i := 0) (N := some 124) (v := ?_) (a' := ?_) #[true, false, false, false, false, false, false, false, false] rfl rfl (by kernel_rfl) (fun _ _ _ h => h) (Or.inl ⟨by rfl, ?_⟩) ?_ ?_
         rotate_left
         ·intro w'
          go_simp
          with_reducible rfl
         rotate_left
         ·simp only [Act.put, List.setIfInBounds_toArray, List.set_cons_zero, List.set_cons_succ, i64_w, i32_w]
          rfl
         refine pure_ (i := 2) (N := some 126) (v := ?_) (a' := ?_) #[true, false, true, false, false, false, false, false, false] rfl rfl (by kernel_rfl) (fun _ _ _ h => h) (Or.inl ⟨by rfl, ?_⟩) ?_ ?_
         rotate_left
         ·intro w'
          go_simp
          with_reducible rfl
         rotate_left
         ·simp only [Act.put, List.setIfInBounds_toArray, List.set_cons_zero, List.set_cons_succ, i64_w, i32_w]
          rfl
         refine pure_ (i := 3) (N := some 127) (v := ?_) (a' := ?_) #[true, false, true, true, false, false, false, false, false] rfl rfl (by kernel_rfl) (fun _ _ _ h => h) (Or.inl ⟨by rfl, ?_⟩) ?_ ?_
         rotate_left
         ·intro w'
          go_simp
          with_reducible rfl
         rotate_left
         ·simp only [Act.put, List.setIfInBounds_toArray, List.set_cons_zero, List.set_cons_succ, i64_w, i32_w]
          rfl
         refine take_ (i := 1) (N := some 125) (v := ?_) (a' := ?_) #[true, true, true, true, false, false, false, false, false] rfl rfl (by kernel_rfl) (fun _ _ _ h => h) (Or.inl ⟨by rfl, ?_⟩) hHeld ?_ ?_
         rotate_left
         ·rintro w' s0
          go_simp
          with_reducible rfl
         rotate_left
         ·simp only [Act.put, List.setIfInBounds_toArray, List.set_cons_zero, List.set_cons_succ, i64_w, i32_w]
          rfl
         refine one_ (i := 4) (N := some 128) #[true, true, true, true, true, false, false, false, false] rfl rfl (by kernel_rfl) (by decide) (fun K hK => ?_)
         refine callP_ 40 #[.pointer (some ⟨g, 0, none⟩), .int .i64 4096, .int .i64 0, .int .i64 i, .int .i64 123] (by rfl) rfl ?_ ?_
         ·go_simp
         refine HC.out.mono ?_
         rintro e w9 hpost
         rcases z with ⟨er, q2⟩ | ⟨bs, p4⟩
         ·obtain ⟨he, hb2, hk2⟩ := hpost
          have hYr : Y2 = Except.error (er, q2) := HE1.out.symm
          have hr := HR3.out
          rw [hYr] at hr
          obtain rfl := Option.some.inj hr
          have hk3 := HT.out.drew.K.trans hk2 (.inl rfl)
          exact .inr ⟨_, he, rfl, rfl, hb2, hk3⟩
         obtain ⟨v, rfl, hR, hI5, hB5, hK5⟩ := hpost
         refine .inl ⟨_, rfl, ?_⟩
         have hT9 := HT.out.drew.call hI5 hB5 hK5
         obtain ⟨Av, cv, ev⟩ := Kd.R_slice hR
         have hRt := Kd.R_lower (Kd.R_mono (Kd.R_bound hR) (ok' := fun k => wr.heap.size ≤ k) (fun k hk => hk.2.1)) HT.out.drew.sz
         have hsB : Kd.S (Kd.slice 3 (Kd.int .i64)) 26 w9 w.heap.size (fun k => N2 ≤ k ∧ ¬ wr.heap.size ≤ k) (.slice AB bb.length cB) bb := S_callG (Kd.S_mono (Kd.S_bound HT.out.drew.sB) (fun k hk => ⟨hk.1, Nat.not_le.2 hk.2.2.1⟩)) HT.out.lt hK5
         have HT9 := Aside0.mk (hT9.okay hT9.sF hT9.sR hsB)
         have HS9 := Aside0.mk (show wr.heap.size ≤ w9.heap.size from hK5.1)
         subst ev
         have hM : (Kd.slice 3 (Kd.int .i64)).M w9 w.heap.size (fun k => wr.heap.size ≤ k) bs [.slice Av bs.length cv] := ⟨_, rfl, hRt⟩
         have hap : ∀ k, wr.heap.size ≤ k → N2 ≤ k ∧ some k ≠ (Value.slice AB bb.length cB).ownBlock := fun k hk => ⟨by have := HNS.out; omega, fun e => by have := (S_okB hsB k e.symm).2; omega⟩
         have hfr : ∀ k, w9.heap.size ≤ k → N2 ≤ k := fun k hk => by have := HNS.out; have := HS9.out; omega
         have hbase := hT9.sz
         have hlen : (bb.length + 1) * 24 ≤ 140737488355328 := by have := HBL.out; omega
         have HM := Aside0.mk hM
         have HAP := Aside0.mk hap
         have HFR := Aside0.mk hfr
         have HO := Aside0.mk hsB
         clear hR hI5 hB5 hK5 hRt hM hap hfr hsB
         refine hK.out _ _ ((blk_cell hT9.T 3).trans rfl) (fun hHeld => ?_)
         clear hK K
         refine norm_ (a' := ?_) ?_ ?_
         rotate_left
         ·show Act.put _ (some 128) _ = _
          simp only [Act.put, List.setIfInBounds_toArray, List.set_cons_zero, List.set_cons_succ, i64_w, i32_w]
          rfl
         refine one_ (i := 5) (N := some 129) #[true, true, true, true, true, true, false, false, false] rfl rfl (by kernel_rfl) (by decide) (fun K hK => ?_)
         refine value_ (w1 := ?_) (v := ?_) (by rfl) rfl ?_ ?_
         rotate_left 2
         ·go_simp
          constructor
          ·rfl
          ·rfl
         refine hK.out _ _ ((blk_cell (blk_alloc hT9.T _) 3).trans rfl) (fun hHeld => ?_)
         clear hK K
         refine norm_ (a' := ?_) ?_ ?_
         rotate_left
         ·show Act.put _ (some 129) _ = _
          simp only [Act.put, List.setIfInBounds_toArray, List.set_cons_zero, List.set_cons_succ, i64_w, i32_w]
          rfl
         refine one_ (i := 6) (N := some 130) #[true, true, true, true, true, true, true, false, false] rfl rfl (by kernel_rfl) (by decide) (fun K hK => ?_)
         refine Kd.S_append_step (Kd.slice 3 (Kd.int .i64)) (w0 := w9) (W := w9) w.heap.size (by simp [Region.wanted]) (.tmp 125) (.tmp 129) 22 26 (.slice none 0 0) 24 rfl Try.underlying22 infoLi rfl (by decide) (by omega) (.slice AB bb.length cB) bb bs [.slice Av bs.length cv] (fun k => N2 ≤ k) (fun k => wr.heap.size ≤ k) (by rfl) (by rfl) HM.out HAP.out HFR.out HO.out (Below.refl _ _) hbase hlen ?_
         intro v1 w11 hR1 hB1 hg1 hat1
         obtain ⟨hc, hT⟩ := HT9.out.appB hg1 (fun k hk hk2 => by have := hk2.1; have := HN12.out; omega) (fun k hk hk2 => by have := hk2.1; have := hk.2; omega) hR1
         obtain ⟨Ao, co, eo⟩ := Kd.S_slice hR1
         rw [show (bb ++ [bs]).length = bb.length + 1 by simp] at eo
         subst eo
         have d3 := (blk_cell hc 3).trans rfl
         have e3 := blk_frozen hc 3
         have HTA := Aside0.mk hT
         have HNA := Aside0.mk hg1.size
         clear hR1 hB1 hg1 hat1 hT
         refine hK.out _ _ ((blk_cell hc 3).trans rfl) (fun hHeld => ?_)
         clear hK K
         refine norm_ (a' := ?_) ?_ ?_
         rotate_left
         ·show Act.put _ (some 130) _ = _
          simp only [Act.put, List.setIfInBounds_toArray, List.set_cons_zero, List.set_cons_succ, i64_w, i32_w]
          rfl
         refine pure_ (i := 7) (N := some 131) (v := ?_) (a' := ?_) #[true, true, true, true, true, true, true, true, false] rfl rfl (by kernel_rfl) (fun _ _ _ h => h) (Or.inl ⟨by rfl, ?_⟩) ?_ ?_
         rotate_left
         ·intro w'
          go_simp
          with_reducible rfl
         rotate_left
         ·simp only [Act.put, List.setIfInBounds_toArray, List.set_cons_zero, List.set_cons_succ, i64_w, i32_w]
          rfl
         refine last_ (i := 8) (N := none) #[true, true, true, true, true, true, true, true, true] rfl rfl (by kernel_rfl) (by decide) (fun K hK => ?_)
         refine skip_ (w1 := ?_) (by rfl) rfl ?_ ?_
         rotate_left
         ·go_simp
          rfl
         refine hK.out _ _ ?_
         clear hK K
         refine done_ (by kernel_rfl) ?_
         clear d3 e3 hc hbase hlen HM HAP HFR HO HT9 c3
         have HNB := Aside0.mk (show w9.heap.size ≤ (w11.setCell ⟨gt, 3, none⟩ (.slice Ao (bb.length + 1) co)).heap.size by rw [World.size_setCell]; exact HNA.out)
         generalize w11.setCell ⟨gt, 3, none⟩ (.slice Ao (bb.length + 1) co) = w12 at HTA HNB ⊢
         have HE9 : Aside0 (preX (bb ++ [bs]) (beatsT l i (i - (j + 1)) p4) = Y2) := ⟨by rw [preX_snoc, ← HE1.out, show i - (j + 1) = d by have := HD.out; omega]⟩
         have HL9 : Aside0 ((bb ++ [bs]).length = j + 1) := ⟨by rw [List.length_append, HBL.out]; rfl⟩
         have HN9 : Aside0 (N2 ≤ w12.heap.size) := ⟨by have := HNS.out; have := HS9.out; have := HNB.out; omega⟩
         clear HE1 HZ HC HNB HNA HBL HT HNS HS9
         generalize bb ++ [bs] = bb2 at HTA HE9 HL9
         go_wp2_with fail
         go_roundw
         case rel => exact ⟨j + 1, p4, _, bb2, by go_num, by omega, HTA, HL9, HE9, HN9⟩
         case measure => simp [intOf]; omega
        ·obtain rfl : j = i := by omega
         have hE := HE.out
         rw [Nat.sub_self] at hE
         simp only [beatsT, preX, List.append_nil] at hE
         have hr := HR3.out
         rw [← hE] at hr
         simp only [tailT] at hr
         obtain ⟨A, c, hbk, hg0, hC, hcc⟩ := HT.out.I
         have c0 : wr.cell? ⟨g, 0, none⟩ = some (.slice A l.length c) := (blk_cell hbk 0).trans rfl
         have c1 : wr.cell? ⟨g, 1, none⟩ = some (.int .i64 pj) := (blk_cell hbk 1).trans rfl
         clear hE HE HR3 hji hj HNS hbk hC hcc
         by_cases hlt : pj < (l.length : Int)
         ·rw [if_pos hlt] at hr
          obtain rfl := Option.some.inj hr
          have dd : decide (pj < (l.length : Int)) = true := decide_eq_true hlt
          clear hr hlt
          go_wp2_with fail
          go_quiet (fail)
          go_wp2_with fail
          exact ⟨rfl, rfl, pw_below_drewN HT.out.B0 _, keep_drewN HT.out.K _⟩
         rw [if_neg hlt] at hr
         simp only at hr
         obtain ⟨⟨ce, ci⟩, hck, hr⟩ := Option.bind_eq_some_iff.1 hr
         have dd : decide (pj < (l.length : Int)) = false := decide_eq_false hlt
         have HCK := Lib.hid hck
         have HR4 := Lib.hid hr
         clear hck hr hlt
         go_wp2_with fail
         go_quiet (fail)
         have HT1 := Aside0.mk (HT.out.drewN nq)
         clear HT c0 c1
         generalize wr.drewN nq = w1 at HT1 ⊢
         obtain ⟨A1, k1, e1, l1, r1⟩ := Kd.S_reads HT1.out.sF
         obtain ⟨A2, k2, e2, l2, r2⟩ := Kd.S_reads HT1.out.sR
         obtain ⟨A3, k3, e3, l3, r3⟩ := Kd.S_reads HT1.out.sB
         subst e1 e2 e3
         have g0 : w1.cell? ⟨gt, 0, none⟩ = some (.int .i64 q) := (blk_cell HT1.out.T 0).trans rfl
         have g1 : w1.cell? ⟨gt, 1, none⟩ = some (.slice A1 F.length k1) := (blk_cell HT1.out.T 1).trans rfl
         have g2 : w1.cell? ⟨gt, 2, none⟩ = some (.slice A2 acc.length k2) := (blk_cell HT1.out.T 2).trans rfl
         have g3 : w1.cell? ⟨gt, 3, none⟩ = some (.slice A3 bb.length k3) := (blk_cell HT1.out.T 3).trans rfl
         have CK := Aside0.mk (theory_Check.calls k q A1 k1 F A2 k2 acc A3 k3 bb ce ci w1 r1 l1 r2 l2 r3 l3 HCK.out)
         clear r1 r2 r3 l1 l2 l3 HCK dd
         go_wp2_with fail
         refine CK.out.mono ?_
         rintro e w2 ⟨rfl, hb2⟩
         have HT2 := Aside0.mk (HT1.out.below hb2)
         clear hb2 CK HT1 g0 g1 g2 g3
         have hr := HR4.out
         by_cases hce : ce = 0
         ·rw [if_pos hce] at hr
          obtain rfl := Option.some.inj hr
          have dd : (ce != 0) = false := by simpa using hce
          have g0 : w2.cell? ⟨gt, 0, none⟩ = some (.int .i64 q) := (blk_cell HT2.out.T 0).trans rfl
          have g1 : w2.cell? ⟨gt, 1, none⟩ = some (.slice A1 F.length k1) := (blk_cell HT2.out.T 1).trans rfl
          have g2 : w2.cell? ⟨gt, 2, none⟩ = some (.slice A2 acc.length k2) := (blk_cell HT2.out.T 2).trans rfl
          have g3 : w2.cell? ⟨gt, 3, none⟩ = some (.slice A3 bb.length k3) := (blk_cell HT2.out.T 3).trans rfl
          have h0 : w2.cell? ⟨w.heap.size, 0, none⟩ = some (.int .i64 0) := (blk_cell HT2.out.ret 0).trans rfl
          have h1 : w2.cell? ⟨w.heap.size, 1, none⟩ = some (.slice none 0 0) := (blk_cell HT2.out.ret 1).trans rfl
          have h2 : w2.cell? ⟨w.heap.size, 2, none⟩ = some (.slice none 0 0) := (blk_cell HT2.out.ret 2).trans rfl
          have h3 : w2.cell? ⟨w.heap.size, 3, none⟩ = some (.slice none 0 0) := (blk_cell HT2.out.ret 3).trans rfl
          have f0 := blk_frozen HT2.out.ret 0
          have f1 := blk_frozen HT2.out.ret 1
          have f2 := blk_frozen HT2.out.ret 2
          have f3 := blk_frozen HT2.out.ret 3
          clear hr HR4 hce
          go_wp2_with fail
          have hw0 : w.heap.size ≠ gt := HT2.out.hne
          have HB9 := Aside0.mk (below_set (below_set (below_set (below_set HT2.out.B0 (Nat.le_of_lt HT2.out.sz0) (j := 0) (v := .int .i64 q)) (Nat.le_of_lt HT2.out.sz0) (j := 1) (v := .slice A1 F.length k1)) (Nat.le_of_lt HT2.out.sz0) (j := 2) (v := .slice A2 acc.length k2)) (Nat.le_of_lt HT2.out.sz0) (j := 3) (v := .slice A3 bb.length k3))
          have HK9 := Aside0.mk (keep_far (keep_far (keep_far (keep_far HT2.out.K (Nat.le_refl w.heap.size) (p := ⟨w.heap.size, 0, none⟩) (.int .i64 q)) (Nat.le_refl w.heap.size) (p := ⟨w.heap.size, 1, none⟩) (.slice A1 F.length k1)) (Nat.le_refl w.heap.size) (p := ⟨w.heap.size, 2, none⟩) (.slice A2 acc.length k2)) (Nat.le_refl w.heap.size) (p := ⟨w.heap.size, 3, none⟩) (.slice A3 bb.length k3))
          have hb0 := blk_set HT2.out.ret 0 (.int .i64 q)
          have hb1 := blk_set hb0 1 (.slice A1 F.length k1)
          have hb2 := blk_set hb1 2 (.slice A2 acc.length k2)
          have HSF := Aside0.mk (Kd.S_set (Kd.S_set (Kd.S_set (Kd.S_set HT2.out.sF HT2.out.ret (by decide) 0 (.int .i64 q)) hb0 (by decide) 1 (.slice A1 F.length k1)) hb1 (by decide) 2 (.slice A2 acc.length k2)) hb2 (by decide) 3 (.slice A3 bb.length k3))
          have HSR := Aside0.mk (Kd.S_set (Kd.S_set (Kd.S_set (Kd.S_set HT2.out.sR HT2.out.ret (by decide) 0 (.int .i64 q)) hb0 (by decide) 1 (.slice A1 F.length k1)) hb1 (by decide) 2 (.slice A2 acc.length k2)) hb2 (by decide) 3 (.slice A3 bb.length k3))
          have HSB := Aside0.mk (Kd.S_set (Kd.S_set (Kd.S_set (Kd.S_set HT2.out.sB HT2.out.ret (by decide) 0 (.int .i64 q)) hb0 (by decide) 1 (.slice A1 F.length k1)) hb1 (by decide) 2 (.slice A2 acc.length k2)) hb2 (by decide) 3 (.slice A3 bb.length k3))
          refine bodyPost_ret (v := .agg #[.int .i64 q, .slice A1 F.length k1, .slice A2 acc.length k2, .slice A3 bb.length k3]) ?_ rfl ?_
          ·simp [results, Try.results27, go_sem, g0, g1, g2, g3, h0, h1, h2, h3]
          ·exact ⟨_, _, _, N1, N2, HN12.out, rfl, HSF.out, HSR.out, HSB.out, HB9.out, HK9.out⟩
         ·rw [if_neg hce] at hr
          obtain rfl := Option.some.inj hr
          have dd : (ce != 0) = true := by simpa using hce
          clear hr HR4 hce
          go_wp2_with fail
          exact ⟨rfl, rfl, HT2.out.B0, HT2.out.K⟩


end Go.Proofs.Ytpcaonkahhbgfaa.P
