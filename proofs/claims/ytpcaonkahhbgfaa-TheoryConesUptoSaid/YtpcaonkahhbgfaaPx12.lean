-- Written by lexprint.py, a program of this session's own that runs the kit's print with turned rows. Lean checks it.
import Derived.Test.YtpcaonkahhbgfaaPx0
import Derived.Test.YtpcaonkahhbgfaaPx5
import Derived.Test.YtpcaonkahhbgfaaPx6
import Derived.Test.YtpcaonkahhbgfaaPx8
import Derived.Test.YtpcaonkahhbgfaaPx11
namespace Go.Proofs.Ytpcaonkahhbgfaa.P
open Go.RowKit Go.Proofs.YtpcaonkahhbgfaaW.PrintWords Go.Proofs.YtpcaonkahhbgfaaW.PrintLast Go.Proofs.YtpcaonkahhbgfaaW.PrintMore
attribute [local go_sem] max2_int min2_int max_two min_two
set_option linter.unusedVariables false
set_option linter.unusedSimpArgs false

/-! ### theory_Cone: function 5 -/
/-- What is put: what was not in comes in, and is to be done. -/
def putV (n : Nat) : List Int → List Bool × List Int → Option (List Bool × List Int)
  | [], s => some s
  | q :: l, s => if (0 ≤ q ∧ q < n) ∧ s.2.length < 1000000 then (if K.gb s.1 q = true then putV n l s else putV n l (s.1.set q.toNat true, s.2 ++ [q])) else none
theorem cell_of_heap {W W' : World} {p : Addr} (h : W'.heap[p.block]? = W.heap[p.block]?) : W'.cell? p = W.cell? p := by simp [World.cell?, h]
theorem lt_of_cell {W : World} {p : Addr} {v : Value} (h : W.cell? p = some v) : p.block < W.heap.size := by
  rcases e : W.heap[p.block]? with _ | o
  · simp [World.cell?, e] at h
  · exact blk_lt e
/-- A row of numbers in another world that has the blocks. -/
theorem cInt_move {W W' : World} {A : Option Addr} {n : Nat} {xs : List Int} (h : Kd.C (Kd.int .i64) W A n xs) (hm : ∀ k, k < W.heap.size → W'.heap[k]? = W.heap[k]?) : Kd.C (Kd.int .i64) W' A n xs := by
  obtain ⟨h1, h2, h3⟩ := Kd.reads_of_C (d := (0 : Int)) h
  refine Kd.C_of_reads (d := (0 : Int)) (h1 := fun _ => rfl) ⟨h1, h2, fun h0 => ?_⟩
  obtain ⟨ad, e, hc⟩ := h3 h0
  refine ⟨ad, e, fun j hj => ?_⟩
  have := hc j hj
  rw [← this]
  exact cell_of_heap (hm _ (lt_of_cell this))
/-- The closure's two variables, and what they hold: all made from block N0 on. -/
structure PuS (w0 W : World) (N0 gi gn gt n : Nat) (s : List Bool × List Int) (vT : Value) : Prop where
  B : Below w0.heap.size w0 W
  n0 : w0.heap.size ≤ N0
  bI : W.heap[gi]? = some (.cells #[.slice (some ⟨gn, 0, none⟩) n n] 33 (0, 0))
  bN : W.heap[gn]? = some (.cells (bls s.1) 4 (0, 0))
  bT : W.heap[gt]? = some (.cells #[vT] 26 (0, 0))
  T : Kd.R (Kd.int .i64) 3 W N0 (fun _ => True) vT s.2
  li : N0 ≤ gi
  ln : N0 ≤ gn
  lt : N0 ≤ gt
  sl : s.1.length = n
  n4 : n ≤ 4096
def SameTo (N0 : Nat) (W W' : World) : Prop := ∀ k, k < N0 → W'.heap[k]? = W.heap[k]?
theorem SameTo.refl (N0 : Nat) (W : World) : SameTo N0 W W := fun _ _ => rfl
theorem SameTo.trans {N0 : Nat} {W W' W'' : World} (h : SameTo N0 W W') (h' : SameTo N0 W' W'') : SameTo N0 W W'' := fun k hk => (h' k hk).trans (h k hk)
theorem PuS.size {w0 W : World} {N0 gi gn gt n : Nat} {s : List Bool × List Int} {vT : Value} (h : PuS w0 W N0 gi gn gt n s vT) : N0 ≤ W.heap.size := by have := blk_lt h.bI; have := h.li; omega
theorem PuS.drewN {w0 W : World} {N0 gi gn gt n : Nat} {s : List Bool × List Int} {vT : Value} (h : PuS w0 W N0 gi gn gt n s vT) (m : Nat) : PuS w0 (W.drewN m) N0 gi gn gt n s vT :=
  ⟨pw_below_drewN h.B m, h.n0, h.bI, h.bN, h.bT, Kd.R_below h.T (pw_below_drewN (Below.refl _ _) m), h.li, h.ln, h.lt, h.sl, h.n4⟩
/-- One comes in. -/
theorem PuS.mark {w0 W : World} {N0 gi gn gt n : Nat} {s : List Bool × List Int} {vT : Value} (h : PuS w0 W N0 gi gn gt n s vT) (q : Nat) : PuS w0 (W.setCell ⟨gn, q, none⟩ (.bool true)) N0 gi gn gt n (s.1.set q true, s.2) vT := by
  have h0 := h.n0
  have h1 := h.ln
  refine ⟨below_set h.B (by omega), h.n0, blk_far h.bI (ne_of_type h.bI h.bN (by decide)) _, by rw [← bls_set]; exact blk_set h.bN q _, blk_far h.bT (ne_of_type h.bT h.bN (by decide)) _, Kd.R_set h.T h.bN (by decide) q _, h.li, h.ln, h.lt, by simp [h.sl], h.n4⟩
/-- One is to be done. -/
theorem PuS.push {w0 W W1 : World} {N0 gi gn gt n : Nat} {s : List Bool × List Int} {vT v1 : Value} {ys : List Int} (h : PuS w0 W N0 gi gn gt n s vT) (hg : W.grownBy W1 vT.ownBlock) (hR : Kd.R (Kd.int .i64) 3 W1 N0 (fun _ => True) v1 ys) : W1.heap[gt]? = some (.cells #[vT] 26 (0, 0)) ∧ PuS w0 (W1.setCell ⟨gt, 0, none⟩ v1) N0 gi gn gt n (s.1, ys) v1 := by
  have h0 := h.n0
  have h1 := h.lt
  have hrow : ∀ k, vT.ownBlock = some k → N0 ≤ k := Kd.R_base h.T
  have bI := blk_grown h.bI hg (Kd.R_ne h.T h.bI (by decide))
  have bN := blk_grown h.bN hg (Kd.R_ne h.T h.bN (by decide))
  have bT := blk_grown h.bT hg (Kd.R_ne h.T h.bT (by decide))
  have B1 := h.B.grown hg h.B.size (fun k hk => by have := hrow k hk; omega)
  refine ⟨bT, below_set B1 (by omega), h.n0, blk_far bI (ne_of_type bI bT (by decide)) _, blk_far bN (ne_of_type bN bT (by decide)) _, blk_put bT 0 _ rfl, Kd.R_set hR bT (by decide) 0 _, h.li, h.ln, h.lt, h.sl, h.n4⟩
set_option maxHeartbeats 2000000 in
theorem put1_any (N0 gi gn gt n : Nat) (A : Option Addr) (c : Nat) (l : List Int) (w0 w : World) (s s' : List Bool × List Int) (vT : Value) (hS : PuS w0 w N0 gi gn gt n s vT) (hr : ∀ W', SameTo N0 w W' → Kd.C (Kd.int .i64) W' A l.length l) (h : putV n l s = some s') :
    Calls Try.prog 15 #[.slice A l.length c, .pointer (some ⟨gi, 0, none⟩), .pointer (some ⟨gt, 0, none⟩)] w fun e w' => e = .returned (.tuple #[]) ∧ ∃ v', PuS w0 w' N0 gi gn gt n s' v' ∧ SameTo N0 w w' := by
  have HS := Aside0.mk hS
  have HR := Aside0.mk hr
  have H := Aside0.mk h
  have hmx := Kd.C_max (hr w (SameTo.refl _ _))
  clear hS hr h
  go_enter Try.func15, Try.ntmps15
  go_wp2_with fail
  go_loopw [8] (fun v8 wr => ∃ (j : Nat) (sj : List Bool × List Int) (vj : Value), v8 = .int .i64 j ∧ j ≤ l.length ∧ Aside0 (PuS w0 wr N0 gi gn gt n sj vj) ∧ Aside0 (SameTo N0 w wr) ∧ Aside0 (putV n (l.drop j) sj = some s')) (fun v8 _ => l.length - (intOf v8).toNat)
  case atStart => exact ⟨0, s, vT, rfl, Nat.zero_le _, HS, ⟨SameTo.refl _ _⟩, ⟨by rw [List.drop_zero]; exact H.out⟩⟩
  case round =>
    clear HS H
    obtain ⟨j, sj, vj, rfl, hj, HS, HK, HP⟩ := hrel
    by_cases hlt : j < l.length
    · have hp := HP.out
      rw [dropR hlt] at hp
      simp only [putV] at hp
      by_cases hg : (0 ≤ rd l (j : Int) ∧ rd l (j : Int) < (n : Int)) ∧ sj.2.length < 1000000
      rotate_left
      · rw [if_neg hg] at hp; cases hp
      rw [if_pos hg] at hp
      obtain ⟨ad, eA, hel⟩ := Kd.at_int (HR.out wr HK.out) (j : Int) (by omega) (by omega)
      subst eA
      obtain ⟨q, hq⟩ := Int.eq_ofNat_of_zero_le hg.1.1
      rw [hq] at hel hp hg
      simp only [Int.toNat_natCast] at hel hp
      obtain ⟨⟨g0, g1⟩, g2⟩ := hg
      have bI := (blk_cell HS.out.bI 0).trans rfl
      have bN : wr.cell? ⟨gn, q, none⟩ = some (.bool (K.gb sj.1 q)) := by
        have := bls_at (xs := sj.1) (i := (q : Int)) g0 (by rw [HS.out.sl]; exact g1)
        rw [Int.toNat_natCast] at this
        rw [blk_cell HS.out.bN]
        exact this
      by_cases hin : K.gb sj.1 (q : Int) = true
      · rw [if_pos hin] at hp
        rw [hin] at bN
        have HP2 := Aside0.mk hp
        clear hp hin hq HP
        go_wp2_with fail
        go_roundw
        case rel => exact ⟨j + 1, sj, vj, by go_num, by omega, HS, HK, HP2⟩
        case measure => simp [intOf]; omega
      · rw [if_neg hin] at hp
        rw [Bool.eq_false_iff.2 hin] at bN
        have HP2 := Aside0.mk hp
        have fN := blk_frozen HS.out.bN q
        have HS1 := Aside0.mk (HS.out.mark q)
        have HK1 := Aside0.mk (show SameTo N0 wr (wr.setCell ⟨gn, q, none⟩ (.bool true)) from fun k hk => Below.heap_setCell wr _ _ k (by have := HS.out.ln; simp only; omega))
        clear hp hin hq HP
        go_upto_region 5 with fail
        clear bI bN fN hel
        generalize wr.setCell ⟨gn, q, none⟩ (.bool true) = w1 at HS1 HK1 ⊢
        have bT := (blk_cell HS1.out.bT 0).trans rfl
        obtain ⟨AT, cT, eT⟩ := Kd.R_slice HS1.out.T
        simp only at eT
        subst eT
        have hb := HS1.out.size
        have hlen : (sj.2.length + 1) * 8 ≤ 140737488355328 := by omega
        go_upto_region 6 with ((with_reducible refine gate_builtin (b := .append) (xs := #[.tmp 20, .tmp 22]) rfl ?_); at_builtin; refine Kd.R_append (Kd.int .i64) (w0 := w1) N0 rfl (.tmp 20) (.tmp 22) 26 3 (.int .i64 0) 8 rfl Try.underlying26 infoI rfl (by decide) (by omega) (.slice AT sj.2.length cT) sj.2 (q : Int) [.int .i64 (q : Int)] (fun _ => True) (fun _ => False) rfl rfl rfl (fun _ h => h.elim) (fun _ _ => trivial) HS1.out.T (Below.refl _ _) hb hlen ?_; intro v2 w2 hR2 hB2 hg2 hat2; obtain ⟨hbt, hS2⟩ := HS1.out.push hg2 hR2; obtain ⟨A2, c2, e2⟩ := Kd.R_slice hR2; rw [show (sj.2 ++ [(q : Int)]).length = sj.2.length + 1 by simp] at e2; subst e2; have bT2 := (blk_cell hbt 0).trans rfl; have fT2 := blk_frozen hbt 0; have HK2 := Aside0.mk (show SameTo N0 w1 w2 from fun k hk => hg2.block k (by omega) (fun e => by have := Kd.R_base HS1.out.T k e.symm; omega)); have HS2 := Aside0.mk hS2; clear hR2 hB2 hg2 hat2 hbt hS2)
        have HK3 := Aside0.mk (HK.out.trans (HK1.out.trans (HK2.out.trans (show SameTo N0 w2 (w2.setCell ⟨gt, 0, none⟩ (.slice A2 (sj.2.length + 1) c2)) from fun k hk => Below.heap_setCell w2 _ _ k (by have := HS1.out.lt; simp only; omega)))))
        clear bT2 fT2 HK1 HK2 HS1 HS HK bT hb hlen
        generalize w2.setCell ⟨gt, 0, none⟩ (.slice A2 (sj.2.length + 1) c2) = w3 at HS2 HK3 ⊢
        go_wp2_with fail
        go_roundw
        case rel => exact ⟨j + 1, _, _, by go_num, by omega, HS2, HK3, HP2⟩
        case measure => simp [intOf]; omega
    · have hp := HP.out
      rw [List.drop_of_length_le (by omega)] at hp
      simp only [putV, Option.some.injEq] at hp
      subst hp
      go_wp2_with fail
      go_end0
      exact ⟨rfl, vj, HS.out, HK.out⟩
/-! the heads of the rules with a literal in their bodies -/
def bodyV (n : Nat) (h : Int) : List Int → List (List Int) → Option (List (List Int))
  | [], hs => some hs
  | b :: bs, hs => if (0 ≤ b ∧ b < n) ∧ (rd_L1 hs b).length < 1000000 then bodyV n h bs (hs.set b.toNat (rd_L1 hs b ++ [h])) else none
def headsV (n : Nat) : List S36 → List (List Int) → Option (List (List Int))
  | [], hs => some hs
  | r :: rs, hs => (bodyV n r.f1 r.f2 hs).bind fun hs1 => headsV n rs hs1
def coneV (n : Nat) (fo hs : List (List Int)) : Nat → Nat → List Bool × List Int → Option (List Bool)
  | 0, _, _ => none
  | d + 1, i, s => if i < s.2.length then (if 0 ≤ rd s.2 i ∧ rd s.2 i < n then (putV n (rd_L1 fo (rd s.2 i)) s).bind fun s1 => if i < s1.2.length ∧ (0 ≤ rd s1.2 i ∧ rd s1.2 i < n) then (putV n (rd_L1 hs (rd s1.2 i)) s1).bind fun s2 => coneV n fo hs d (i + 1) s2 else none else none) else some s.1
def theory_Cone.f (k : Nat) (a0 : Int) (fo : List (List Int)) (rs : List S36) (be : List (List Int)) (lits : List Int) : Option (List Int × Int) := (theory_Check.f k a0 fo rs be).bind fun c => if c.1 = 0 then
    if (0 ≤ a0 ∧ a0 ≤ 4096) ∧ fo.length = a0.toNat then (headsV a0.toNat rs (List.replicate a0.toNat [])).bind fun hs =>
      if lits.all (fun q => decide (0 ≤ q) && decide (q < a0)) = true then (putV a0.toNat lits (List.replicate a0.toNat false, [])).bind fun s => (coneV a0.toNat fo hs (a0.toNat + 1) 0 s).bind fun inn => (theory_marked.f k inn).bind fun l => some (l, 0)
      else some ([], 91)
    else none
  else some ([], c.1)
theorem headsV_len {n : Nat} : ∀ {rs : List S36} {hs hs' : List (List Int)}, headsV n rs hs = some hs' → hs'.length = hs.length
  | [], hs, hs', h => by cases h; rfl
  | r :: rs, hs, hs', h => by
    simp only [headsV] at h
    obtain ⟨h1, e1, h⟩ := Option.bind_eq_some_iff.1 h
    rw [headsV_len h]
    have : ∀ (bs : List Int) (hs hs' : List (List Int)), bodyV n r.f1 bs hs = some hs' → hs'.length = hs.length := by
      intro bs
      induction bs with
      | nil => intro hs hs' h; cases h; rfl
      | cons b bs ih =>
        intro hs hs' h
        simp only [bodyV] at h
        split at h
        · rw [ih _ _ h, List.length_set]
        · cases h
    exact this _ _ _ e1
/-- The walk's memory while the heads are collected. -/
structure HdS (w W : World) (a0 : Int) (v1 v2 v3 vH : Value) (hs : List (List Int)) : Prop where
  B : Below w.heap.size w W
  bx : W.heap[w.heap.size]? = some (.cells #[.int .i64 a0, v1, v2, v3] 25 (0, 0))
  S : Kd.S (Kd.slice 3 (Kd.int .i64)) 26 W w.heap.size (fun _ => True) vH hs
theorem HdS.below {w W W1 : World} {a0 : Int} {v1 v2 v3 vH : Value} {hs : List (List Int)} (h : HdS w W a0 v1 v2 v3 vH hs) (hb : Below W.heap.size W W1) : HdS w W1 a0 v1 v2 v3 vH hs :=
  ⟨below_step h.B hb, blk_below h.bx hb, Kd.S_below h.S hb⟩
theorem HdS.drew {w W : World} {a0 : Int} {v1 v2 v3 vH : Value} {hs : List (List Int)} (h : HdS w W a0 v1 v2 v3 vH hs) : HdS w W.drew a0 v1 v2 v3 vH hs := h.below (below_drew (Below.refl _ _))
theorem HdS.sz {w W : World} {a0 : Int} {v1 v2 v3 vH : Value} {hs : List (List Int)} (h : HdS w W a0 v1 v2 v3 vH hs) : w.heap.size < W.heap.size := blk_lt h.bx
theorem HdS.rowPut {w W W1 : World} {a0 : Int} {v1 v2 v3 : Value} {hs hs' : List (List Int)} {b n c : Nat} (h : HdS w W a0 v1 v2 v3 (.slice (some ⟨b, 0, none⟩) n c) hs) {vi u : Value} {ok : Nat → Prop} {xs : List Int} (hR : Kd.R (Kd.int .i64) 3 W w.heap.size ok vi xs) (hg : W.grownBy W1 vi.ownBlock) (i : Nat)
    (hS : Kd.S (Kd.slice 3 (Kd.int .i64)) 26 (W1.setCell ⟨b, i, none⟩ u) w.heap.size (fun _ => True) (.slice (some ⟨b, 0, none⟩) n c) hs') : HdS w (W1.setCell ⟨b, i, none⟩ u) a0 v1 v2 v3 (.slice (some ⟨b, 0, none⟩) n c) hs' := by
  have hob : (Value.slice (some ⟨b, 0, none⟩) n c).ownBlock = some b := by simp [Value.ownBlock]
  obtain ⟨cb, hcb⟩ := Kd.S_typed h.S b hob
  have hb0 := Kd.S_base h.S b hob
  have b1 : w.heap.size ≠ b := ne_of_type h.bx hcb (by decide)
  have bx1 := blk_grown h.bx hg (Kd.R_ne hR h.bx (by decide))
  have B1 := h.B.grown hg h.B.size (fun k hk => by have := Kd.R_base hR k hk; omega)
  exact ⟨below_set B1 (by omega), blk_far bx1 (by simpa using b1) _, hS⟩
theorem C_bools {W : World} {g : Nat} {xs : List Bool} (h : W.heap[g]? = some (.cells (bls xs) 4 (0, 0))) (hm : xs.length ≤ 1000000) : Kd.C Kd.bool W (some ⟨g, 0, none⟩) xs.length xs := by
  refine Kd.C_of_reads (d := false) (h1 := fun _ => rfl) ⟨rfl, by omega, fun h0 => ⟨⟨g, 0, none⟩, rfl, fun j hj => ?_⟩⟩
  rw [add_plain, blk_cell h]
  simp [bls, bools, List.getElem?_eq_getElem hj, List.getD_eq_getElem?_getD]
theorem infoBl : (Try.prog.info? 4).map (fun i => (i.zero, i.size, i.bytes)) = some (some (.bool false), 1, 1) := by kernel_rfl
set_option maxHeartbeats 4000000 in
set_option maxRecDepth 100000 in
theorem theory_Cone.calls (k : Nat) (a0_0 : Int) (A0_1 : Option Addr) (c0_1 : Nat) (l0_1 : List (List Int)) (A0_2 : Option Addr) (c0_2 : Nat) (l0_2 : List S36) (A0_3 : Option Addr) (c0_3 : Nat) (l0_3 : List (List Int)) (A1 : Option Addr) (c1 : Nat) (l1 : List Int) (r1 : List Int) (r2 : Int) (w : World) (hr0_1 : Kd.C (Kd.slice 3 (Kd.int .i64)) w A0_1 l0_1.length l0_1) (hc0_1 : l0_1.length ≤ c0_1) (hr0_2 : Kd.C k36 w A0_2 l0_2.length l0_2) (hc0_2 : l0_2.length ≤ c0_2) (hr0_3 : Kd.C (Kd.slice 3 (Kd.int .i64)) w A0_3 l0_3.length l0_3) (hc0_3 : l0_3.length ≤ c0_3) (hr1 : Kd.C (Kd.int .i64) w A1 l1.length l1) (hc1 : l1.length ≤ c1) (h : theory_Cone.f k a0_0 l0_1 l0_2 l0_3 l1 = some (r1, r2)) :
    Calls Try.prog 5 #[.agg #[.int .i64 a0_0, .slice A0_1 l0_1.length c0_1, .slice A0_2 l0_2.length c0_2, .slice A0_3 l0_3.length c0_3], .slice A1 l1.length c1] w fun e w' => ∃ v0_ : Value, e = .returned (.tuple #[v0_, .int .i64 r2]) ∧ Kd.R (Kd.int .i64) 3 w' w.heap.size (fun _ => True) v0_ r1 ∧ Below w.heap.size w w' := by
  unfold theory_Cone.f at h
  obtain ⟨⟨ce, ci⟩, hck, h⟩ := Option.bind_eq_some_iff.1 h
  have hb0 := below_alloc (Below.refl w.heap.size w) (.cells #[.int .i64 a0_0, .slice A0_1 l0_1.length c0_1, .slice A0_2 l0_2.length c0_2, .slice A0_3 l0_3.length c0_3] 25 (0, 0))
  have HCK := Aside0.mk (theory_Check.calls k a0_0 A0_1 c0_1 l0_1 A0_2 c0_2 l0_2 A0_3 c0_3 l0_3 ce ci _ (Kd.C_below hr0_1 hb0) hc0_1 (Kd.C_below hr0_2 hb0) hc0_2 (Kd.C_below hr0_3 hb0) hc0_3 hck)
  have HBX := Aside0.mk (blk_new w (.cells #[.int .i64 a0_0, .slice A0_1 l0_1.length c0_1, .slice A0_2 l0_2.length c0_2, .slice A0_3 l0_3.length c0_3] 25 (0, 0)))
  have HB := Aside0.mk hb0
  have HR1 := Aside0.mk hr0_1
  have HR2 := Aside0.mk hr0_2
  have HRL := Aside0.mk hr1
  have H := Aside0.mk h
  have hm1 := Kd.C_max hr0_1
  have hm2 := Kd.C_max hr0_2
  have hm4 := Kd.C_max hr1
  clear hck hb0 hr0_1 hr0_2 hr0_3 hr1 h
  go_enter Try.func5, Try.ntmps5
  go_wp2_with fail
  refine HCK.out.mono ?_
  rintro e w1 ⟨rfl, hb⟩
  have HB1 := Aside0.mk (below_step HB.out hb)
  have HBX1 := Aside0.mk (blk_below HBX.out hb)
  clear hb HB HBX HCK
  have h := H.out
  by_cases he : ce = 0
  rotate_left
  · simp only [if_neg he, Option.some.injEq, Prod.mk.injEq] at h
    obtain ⟨rfl, rfl⟩ := h
    have t1 : (ce != 0) = true := by simpa using he
    clear he H
    go_wp2_with fail
    go_ret2
    exact ⟨_, rfl, Kd.R_nil _ _ _ _ _, HB1.out⟩
  simp only [if_pos he] at h
  have t1 : (ce != 0) = false := by simpa using he
  by_cases hg : (0 ≤ a0_0 ∧ a0_0 ≤ 4096) ∧ l0_1.length = a0_0.toNat
  rotate_left
  · rw [if_neg hg] at h; cases h
  rw [if_pos hg] at h
  obtain ⟨hs, hhs, h⟩ := Option.bind_eq_some_iff.1 h
  obtain ⟨n, rfl⟩ := Int.eq_ofNat_of_zero_le hg.1.1
  simp only [Int.toNat_natCast] at h hhs hg
  obtain ⟨⟨_, hn4⟩, hfl⟩ := hg
  have HFL := Aside0.mk hfl
  have HHS := Aside0.mk hhs
  have HL := Aside0.mk h
  clear h hhs H he hfl
  have g0 : w1.cell? ⟨w.heap.size, 0, none⟩ = some (.int .i64 (n : Int)) := (blk_cell HBX1.out 0).trans rfl
  have g2 : w1.cell? ⟨w.heap.size, 2, none⟩ = some (.slice A0_2 l0_2.length c0_2) := (blk_cell HBX1.out 2).trans rfl
  have hz1 := Nat.le_of_lt (blk_lt HBX1.out)
  go_upto_region 5 with ((with_reducible refine gate_dst (N := 29) rfl ?_); refine Kd.S_make (Kd.slice 3 (Kd.int .i64)) (w0 := w1) w.heap.size 26 rfl (N := 29) rfl 22 _ _ rfl (n : Int) rfl rfl Try.underlying22 (.slice none 0 0) 24 infoLi rfl (by decide) (by omega) [] (ok := fun _ => True) (okp := fun _ => False) ⟨.slice none 0 0, rfl, Kd.R_nil _ _ _ _ _⟩ (fun _ h => h.elim) trivial (by omega) (by omega) (Below.refl _ _) hz1 ?_; intro v1 w2 hS hb hg hat; obtain ⟨AH, cH, eH⟩ := Kd.S_slice hS; simp only [List.length_replicate, Int.toNat_natCast] at eH; subst eH; have HS2 : Aside0 (HdS w w2 n (.slice A0_1 l0_1.length c0_1) (.slice A0_2 l0_2.length c0_2) (.slice A0_3 l0_3.length c0_3) (.slice AH n cH) (List.replicate n [])) := ⟨⟨HB1.out.grown hg HB1.out.size (fun k hk => by cases hk), blk_grown HBX1.out hg (by simp), by simpa using hS⟩⟩; clear hS hb hg hat)
  have g2 : w2.cell? ⟨w.heap.size, 2, none⟩ = some (.slice A0_2 l0_2.length c0_2) := (blk_cell HS2.out.bx 2).trans rfl
  clear g0 hz1 HB1 HBX1
  go_wp2_with fail
  clear g2
  go_loopw [33] (fun v33 wr => ∃ (i : Nat) (hsi : List (List Int)), v33 = .int .i64 i ∧ i ≤ l0_2.length ∧ Aside0 (HdS w wr n (.slice A0_1 l0_1.length c0_1) (.slice A0_2 l0_2.length c0_2) (.slice A0_3 l0_3.length c0_3) (.slice AH n cH) hsi) ∧ Aside0 (hsi.length = n) ∧ Aside0 (headsV n (l0_2.drop i) hsi = some hs)) (fun v33 _ => l0_2.length - (intOf v33).toNat)
  case atStart => exact ⟨0, _, rfl, Nat.zero_le _, HS2, ⟨by simp⟩, ⟨by rw [List.drop_zero]; exact HHS.out⟩⟩
  case round =>
    clear HS2 HHS
    obtain ⟨i, hsi, rfl, hi, HS, HSL, HH⟩ := hrel
    by_cases hlt : i < l0_2.length
    · as_aux_lemma =>
      have hh := HH.out
      rw [dropU hlt] at hh
      simp only [headsV] at hh
      obtain ⟨hs1, hb1, hh⟩ := Option.bind_eq_some_iff.1 hh
      obtain ⟨ad, Ab, cb, rfl, x0, x1, x2, hlb, hCb⟩ := at_T36 HR2.out (i : Int) (by omega) (by omega)
      have x0 := pw_cell_below HS.out.B x0
      have x1 := pw_cell_below HS.out.B x1
      have x2 := pw_cell_below HS.out.B x2
      simp only [Int.toNat_natCast] at x0 x1 x2
      obtain ⟨s, hs⟩ : ∃ s, s = rd_T36 l0_2 (i : Int) := ⟨_, rfl⟩
      rw [← hs] at x0 x1 x2 hb1 hlb hCb
      have HB1 := Aside0.mk hb1
      have HH1 := Aside0.mk hh
      have HCB := Aside0.mk hCb
      have hmb := Kd.C_max hCb
      have HS1 := Aside0.mk (HS.out.below (below_alloc (Below.refl wr.heap.size wr) (.cells #[.int .i64 s.f0, .int .i64 s.f1, .slice Ab s.f2.length cb] 36 (0, 0))))
      have BX := Aside0.mk (blk_new wr (.cells #[.int .i64 s.f0, .int .i64 s.f1, .slice Ab s.f2.length cb] 36 (0, 0)))
      obtain ⟨gx, hgx⟩ : ∃ gx, gx = wr.heap.size := ⟨_, rfl⟩
      have HGX := Aside0.mk (show w.heap.size ≤ gx by have := HS.out.sz; omega)
      clear hb1 hh hCb hs HH HS
      go_upto_region 8 with fail
      rw [← hgx] at BX ⊢
      generalize wr.alloc (.cells #[.int .i64 s.f0, .int .i64 s.f1, .slice Ab s.f2.length cb] 36 (0, 0)) = wa at HS1 BX ⊢
      clear hgx x0 x1 x2
      have y2 : wa.cell? ⟨gx, 2, none⟩ = some (.slice Ab s.f2.length cb) := (blk_cell BX.out 2).trans rfl
      go_wp2_with fail
      clear y2
      obtain ⟨wo, hwo⟩ : ∃ wo : World, wo = wr := ⟨_, rfl⟩
      clear hwo
      go_loopw [40] (fun v40 wr => ∃ (j : Nat) (hsj : List (List Int)), v40 = .int .i64 j ∧ j ≤ s.f2.length ∧ Aside0 (HdS w wr n (.slice A0_1 l0_1.length c0_1) (.slice (some ad) l0_2.length c0_2) (.slice A0_3 l0_3.length c0_3) (.slice AH n cH) hsj) ∧ Aside0 (wr.heap[gx]? = some (.cells #[.int .i64 s.f0, .int .i64 s.f1, .slice Ab s.f2.length cb] 36 (0, 0))) ∧ Aside0 (hsj.length = n) ∧ Aside0 (bodyV n s.f1 (s.f2.drop j) hsj = some hs1)) (fun v40 _ => s.f2.length - (intOf v40).toNat)
      case atStart => exact ⟨0, hsi, rfl, Nat.zero_le _, HS1, BX, HSL, ⟨by rw [List.drop_zero]; exact HB1.out⟩⟩
      case round =>
        clear HS1 BX HB1 HSL
        obtain ⟨j, hsj, rfl, hj, HS, BX, HSL, HBV⟩ := hrel
        by_cases hltj : j < s.f2.length
        · have hp := HBV.out
          rw [dropR hltj] at hp
          simp only [bodyV] at hp
          by_cases hgd : (0 ≤ rd s.f2 (j : Int) ∧ rd s.f2 (j : Int) < (n : Int)) ∧ (rd_L1 hsj (rd s.f2 (j : Int))).length < 1000000
          rotate_left
          · rw [if_neg hgd] at hp; cases hp
          rw [if_pos hgd] at hp
          obtain ⟨ad2, eA, hel⟩ := Kd.at_int (Kd.C_below HCB.out HS.out.B) (j : Int) (by omega) (by omega)
          subst eA
          obtain ⟨q, hq⟩ := Int.eq_ofNat_of_zero_le hgd.1.1
          rw [hq] at hel hp hgd
          simp only [Int.toNat_natCast] at hel hp
          obtain ⟨⟨hqa, hqb⟩, hqc⟩ := hgd
          have HPV := Aside0.mk hp
          clear hp hq HBV
          go_upto_region 11 with fail
          clear hel
          as_aux_lemma =>
          have hz := HS.out.sz
          obtain ⟨bF, cF, eF, hbF0, hbF1, cellsF, hcF⟩ := Kd.S_form HS.out.S (by rw [HSL.out]; omega)
          rw [HSL.out] at eF
          have eF2 : AH = some ⟨bF, 0, none⟩ ∧ cH = cF := by cases eF; exact ⟨rfl, rfl⟩
          obtain ⟨rfl, rfl⟩ := eF2
          obtain ⟨oki, vi, hq1, fq1, hRi, hfr, hvi, hfin⟩ := S_rowOut (W := wr.drew) (show Kd.S (Kd.slice 3 (Kd.int .i64)) 26 wr.drew w.heap.size (fun _ => True) _ _ from HS.out.S) (i := (q : Int)) hqa (by omega) (fun _ _ => trivial)
          simp only [Int.toNat_natCast] at hq1 fq1 hfin
          obtain ⟨xs, hxs⟩ : ∃ xs, rd_L1 hsj (q : Int) = xs := ⟨_, rfl⟩
          have hRi := (show Kd.R (Kd.int .i64) 3 _ _ _ vi xs by rw [← hxs]; simpa [rd_L1] using hRi)
          obtain ⟨Ai, ci', ei⟩ := Kd.R_slice hRi
          subst ei
          rw [hxs] at hqc
          have HRi := Aside0.mk hRi
          have HFIN := Aside0.mk hfin
          have HVI := Aside0.mk hvi
          have HFR := Aside0.mk hfr
          have HXS := Lib.hid hxs
          have HCF := Aside0.mk hcF
          have y1 : wr.cell? ⟨gx, 1, none⟩ = some (.int .i64 s.f1) := (blk_cell BX.out 1).trans rfl
          have hq1 : wr.cell? ⟨bF, q, none⟩ = some (.slice Ai xs.length ci') := hq1
          have hzz : w.heap.size ≤ wr.drew.heap.size := Nat.le_of_lt hz
          clear hRi hfin hvi hfr hxs fq1 hcF
          refine start_ (n := 12) (S := fun w' => w'.cell? ⟨bF, q, none⟩ = some (.slice Ai xs.length ci') ∧ w'.cell? ⟨gx, 1, none⟩ = some (.int .i64 s.f1)) (ds := [11]) #[false, false, false, false, false, false, false, false, false, false, false, false] (by kernel_rfl) rfl rfl (⟨hq1, y1⟩) (fun hHeld => ?_)
          refine pure_ (i := 0) (N := some 44) (v := ?_) (a' := ?_) #[true, false, false, false, false, false, false, false, false, false, false, false] rfl rfl (by kernel_rfl) (fun _ _ _ h => h) (Or.inl ⟨by rfl, ?_⟩) ?_ ?_
          rotate_left
          · intro w'
            go_simp
            with_reducible rfl
          rotate_left
          · simp only [Act.put, List.setIfInBounds_toArray, List.set_cons_zero, List.set_cons_succ, i64_w, i32_w]
            rfl
          refine pure_ (i := 1) (N := some 45) (v := ?_) (a' := ?_) #[true, true, false, false, false, false, false, false, false, false, false, false] rfl rfl (by kernel_rfl) (fun _ _ _ h => h) (Or.inl ⟨by rfl, ?_⟩) ?_ ?_
          rotate_left
          · intro w'
            go_simp
            with_reducible rfl
          rotate_left
          · simp only [Act.put, List.setIfInBounds_toArray, List.set_cons_zero, List.set_cons_succ, i64_w, i32_w]
            rfl
          refine pure_ (i := 2) (N := some 46) (v := ?_) (a' := ?_) #[true, true, true, false, false, false, false, false, false, false, false, false] rfl rfl (by kernel_rfl) (fun _ _ _ h => h) (Or.inl ⟨by rfl, ?_⟩) ?_ ?_
          rotate_left
          · intro w'
            go_simp
            with_reducible rfl
          rotate_left
          · simp only [Act.put, List.setIfInBounds_toArray, List.set_cons_zero, List.set_cons_succ, i64_w, i32_w]
            rfl
          refine pure_ (i := 3) (N := some 47) (v := ?_) (a' := ?_) #[true, true, true, true, false, false, false, false, false, false, false, false] rfl rfl (by kernel_rfl) (fun _ _ _ h => h) (Or.inl ⟨by rfl, ?_⟩) ?_ ?_
          rotate_left
          · intro w'
            go_simp
            with_reducible rfl
          rotate_left
          · simp only [Act.put, List.setIfInBounds_toArray, List.set_cons_zero, List.set_cons_succ, i64_w, i32_w]
            rfl
          refine pure_ (i := 4) (N := some 48) (v := ?_) (a' := ?_) #[true, true, true, true, true, false, false, false, false, false, false, false] rfl rfl (by kernel_rfl) (fun _ _ _ h => h) (Or.inl ⟨by rfl, ?_⟩) ?_ ?_
          rotate_left
          · intro w'
            go_simp
            with_reducible rfl
          rotate_left
          · simp only [Act.put, List.setIfInBounds_toArray, List.set_cons_zero, List.set_cons_succ, i64_w, i32_w]
            rfl
          refine pure_ (i := 6) (N := some 50) (v := ?_) (a' := ?_) #[true, true, true, true, true, false, true, false, false, false, false, false] rfl rfl (by kernel_rfl) (fun _ _ _ h => h) (Or.inl ⟨by rfl, ?_⟩) ?_ ?_
          rotate_left
          · intro w'
            go_simp
            with_reducible rfl
          rotate_left
          · simp only [Act.put, List.setIfInBounds_toArray, List.set_cons_zero, List.set_cons_succ, i64_w, i32_w]
            rfl
          refine take_ (i := 5) (N := some 49) (v := ?_) (a' := ?_) #[true, true, true, true, true, true, true, false, false, false, false, false] rfl rfl (by kernel_rfl) (fun _ _ _ h => h) (Or.inl ⟨by rfl, ?_⟩) hHeld ?_ ?_
          rotate_left
          · rintro w' ⟨s0, s1⟩
            go_simp
            with_reducible rfl
          rotate_left
          · simp only [Act.put, List.setIfInBounds_toArray, List.set_cons_zero, List.set_cons_succ, i64_w, i32_w]
            rfl
          refine take_ (i := 7) (N := some 51) (v := ?_) (a' := ?_) #[true, true, true, true, true, true, true, true, false, false, false, false] rfl rfl (by kernel_rfl) (fun _ _ _ h => h) (Or.inl ⟨by rfl, ?_⟩) hHeld ?_ ?_
          rotate_left
          · rintro w' ⟨s0, s1⟩
            go_simp
            with_reducible rfl
          rotate_left
          · simp only [Act.put, List.setIfInBounds_toArray, List.set_cons_zero, List.set_cons_succ, i64_w, i32_w]
            rfl
          refine one_ (i := 8) (N := some 52) #[true, true, true, true, true, true, true, true, true, false, false, false] rfl rfl (by kernel_rfl) (by decide) (fun K hK => ?_)
          refine value_ (w1 := ?_) (v := ?_) (by rfl) rfl ?_ ?_
          rotate_left 2
          · go_simp
            constructor
            · rfl
            · rfl
          refine hK.out _ _ (⟨pw_cell_below (below_alloc (Below.refl _ _) _) hq1, pw_cell_below (below_alloc (Below.refl _ _) _) y1⟩) (fun hHeld => ?_)
          clear hK K
          refine norm_ (a' := ?_) ?_ ?_
          rotate_left
          · show Act.put _ (some 52) _ = _
            simp only [Act.put, List.setIfInBounds_toArray, List.set_cons_zero, List.set_cons_succ, i64_w, i32_w]
            rfl
          refine one_ (i := 9) (N := some 53) #[true, true, true, true, true, true, true, true, true, true, false, false] rfl rfl (by kernel_rfl) (by decide) (fun K hK => ?_)
          refine Kd.R_append_step (Kd.int .i64) (w0 := wr.drew) (W := wr.drew) w.heap.size (by simp [Region.wanted]) (.tmp 49) (.tmp 52) 26 3 (.int .i64 0) 8 rfl Try.underlying26 infoI rfl (by decide) (by omega) (.slice Ai xs.length ci') xs s.f1 [.int .i64 s.f1] (fun k => oki k ∨ wr.drew.heap.size ≤ k) (fun _ => False) (by rfl) (by rfl) rfl (fun _ h => h.elim) HFR.out HRi.out (Below.refl _ _) hzz (by omega) ?_
          intro vn w6 hR hB hg hat
          have HN := Aside0.mk (HFIN.out w6 vn _ hg hR)
          have HM := Aside0.mk (HS.out.drew.rowPut HRi.out hg q HN.out)
          have bx6 := blk_grown (show wr.drew.heap[gx]? = _ from BX.out) hg (Kd.R_ne HRi.out (show wr.drew.heap[gx]? = _ from BX.out) (by decide))
          have hb6 := blk_grown (show wr.drew.heap[bF]? = _ from HCF.out) hg (fun e => (HVI.out bF e.symm).1 rfl)
          obtain ⟨An, cn, en⟩ := Kd.R_slice hR
          have eln : (xs ++ [s.f1]).length = xs.length + 1 := by simp
          rw [eln] at en
          subst en
          have hq6 : w6.cell? ⟨bF, q, none⟩ = some (.slice Ai xs.length ci') := by rw [blk_cell hb6, ← blk_cell (show wr.heap[bF]? = _ from HCF.out)]; exact hq1
          have fq6 := blk_frozen hb6 q
          have HBX6 := Aside0.mk (blk_far bx6 (p := ⟨bF, q, none⟩) (ne_of_type bx6 hb6 (by decide)) (.slice An (xs.length + 1) cn))
          clear hR hB hg hat eln
          refine hK.out _ _ (⟨hq6, (blk_cell bx6 1).trans rfl⟩) (fun hHeld => ?_)
          clear hK K
          refine norm_ (a' := ?_) ?_ ?_
          rotate_left
          · show Act.put _ (some 53) _ = _
            simp only [Act.put, List.setIfInBounds_toArray, List.set_cons_zero, List.set_cons_succ, i64_w, i32_w]
            rfl
          refine pure_ (i := 10) (N := some 54) (v := ?_) (a' := ?_) #[true, true, true, true, true, true, true, true, true, true, true, false] rfl rfl (by kernel_rfl) (fun _ _ _ h => h) (Or.inl ⟨by rfl, ?_⟩) ?_ ?_
          rotate_left
          · intro w'
            go_simp
            with_reducible rfl
          rotate_left
          · simp only [Act.put, List.setIfInBounds_toArray, List.set_cons_zero, List.set_cons_succ, i64_w, i32_w]
            rfl
          refine last_ (i := 11) (N := none) #[true, true, true, true, true, true, true, true, true, true, true, true] rfl rfl (by kernel_rfl) (by decide) (fun K hK => ?_)
          refine skip_ (w1 := ?_) (by rfl) rfl ?_ ?_
          rotate_left
          · go_simp
            rfl
          refine hK.out _ _ ?_
          clear hK K
          refine done_ (by kernel_rfl) ?_
          have HL6 : Aside0 ((hsj.set q (xs ++ [s.f1])).length = n) := ⟨by rw [List.length_set]; exact HSL.out⟩
          have HP6 : Aside0 (bodyV n s.f1 (s.f2.drop (j + 1)) (hsj.set q (xs ++ [s.f1])) = some hs1) := ⟨by have := HPV.out; rwa [HXS.out] at this⟩
          clear hq1 y1 hqa hqb hqc bx6 hb6 hq6 fq6 HRi HFIN HVI HFR HCF HN HPV HXS HS BX HSL
          generalize w6.setCell ⟨bF, q, none⟩ (.slice An (xs.length + 1) cn) = wb at HM HBX6 ⊢
          go_wp2_with fail
          go_roundw
          case rel => exact ⟨j + 1, _, by go_num, by omega, HM, HBX6, HL6, HP6⟩
          case measure => simp [intOf]; omega
        · have hp := HBV.out
          rw [List.drop_of_length_le (by omega)] at hp
          simp only [bodyV, Option.some.injEq] at hp
          subst hp
          clear HBV
          go_wp2_with fail
          go_roundw
          case rel => exact ⟨i + 1, hsj, by go_num, by omega, HS, HSL, HH1⟩
          case measure => simp [intOf]; omega
    · have hh := HH.out
      rw [List.drop_of_length_le (by omega)] at hh
      simp only [headsV, Option.some.injEq] at hh
      subst hh
      clear HH hi
      have MB := fun w => mk_run (P := Try.prog) 33 4 (.bool false) 1 Try.underlying33 infoBl rfl n (by omega) (by omega) w
      have g0 : wr.cell? ⟨w.heap.size, 0, none⟩ = some (.int .i64 (n : Int)) := (blk_cell HS.out.bx 0).trans rfl
      obtain ⟨N0, hN0⟩ : ∃ N0, N0 = wr.heap.size := ⟨_, rfl⟩
      have hF0 : ∀ W', SameTo N0 wr W' → Kd.C (Kd.slice 3 (Kd.int .i64)) W' AH n hsi := fun W' hW => by
        have := Kd.S_F HS.out.S W' (fun k _ hk => hW k (by rw [hN0]; exact hk))
        exact this
      have HF : Aside0 (∀ y : Nat, y < n → ∃ ad Ah ch, AH = some ad ∧ ∀ W', SameTo N0 wr W' → W'.cell? (ad.add y) = some (.slice Ah (rd_L1 hsi (y : Int)).length ch) ∧ Kd.C (Kd.int .i64) W' Ah (rd_L1 hsi (y : Int)).length (rd_L1 hsi (y : Int))) := ⟨fun y hy => by
        obtain ⟨ah, Ah, ch, eH, hrow, hlh, hCh⟩ := at_L1 (hF0 wr (SameTo.refl _ _)) (y : Int) (by omega) (by omega)
        refine ⟨ah, Ah, ch, eH, fun W' hW => ?_⟩
        obtain ⟨ah2, Ah2, ch2, eH2, hrow2, hlh2, hCh2⟩ := at_L1 (hF0 W' hW) (y : Int) (by omega) (by omega)
        rw [eH] at eH2
        cases eH2
        have e := cell_of_heap (hW _ (by rw [hN0]; exact lt_of_cell hrow))
        rw [hrow2, hrow] at e
        simp only [Option.some.injEq, Value.slice.injEq] at e
        obtain ⟨rfl, _, rfl⟩ := e
        simp only [Int.toNat_natCast] at hrow2
        exact ⟨hrow2, hCh2⟩⟩
      clear hF0
      have HBX := Aside0.mk HS.out.bx
      have HBW := Aside0.mk HS.out.B
      have HZ := Aside0.mk (show w.heap.size < N0 by rw [hN0]; exact HS.out.sz)
      obtain ⟨w5, hw5⟩ : ∃ w5, w5 = ((wr.alloc (.cells (Array.replicate n (.bool false)) 4 (0, 0))).alloc (.cells #[.slice (some ⟨N0, 0, none⟩) n n] 33 (0, 0))).alloc (.cells #[.slice none 0 0] 26 (0, 0)) := ⟨_, rfl⟩
      have PS : Aside0 (PuS w w5 N0 (N0 + 1) N0 (N0 + 2) n (List.replicate n false, []) (.slice none 0 0)) := ⟨by
        refine ⟨?_, Nat.le_of_lt HZ.out, ?_, ?_, ?_, ?_, by omega, Nat.le_refl _, by omega, by simp, by omega⟩
        · rw [hw5]; exact below_alloc (below_alloc (below_alloc HBW.out _) _) _
        · rw [hw5]; refine blk_alloc ?_ _; have := blk_new (wr.alloc (.cells (Array.replicate n (.bool false)) 4 (0, 0))) (.cells #[.slice (some ⟨N0, 0, none⟩) n n] 33 (0, 0)); rw [World.size_alloc, ← hN0] at this; exact this
        · rw [hw5]; refine blk_alloc (blk_alloc ?_ _) _; have := blk_new wr (.cells (Array.replicate n (.bool false)) 4 (0, 0)); rw [← hN0] at this; rw [this]; simp [bls, bools]
        · rw [hw5]; have := blk_new ((wr.alloc (.cells (Array.replicate n (.bool false)) 4 (0, 0))).alloc (.cells #[.slice (some ⟨N0, 0, none⟩) n n] 33 (0, 0))) (.cells #[.slice none 0 0] 26 (0, 0)); rw [World.size_alloc, World.size_alloc, ← hN0] at this; exact this
        · exact Kd.R_nil _ _ _ _ _⟩
      have HK5 : Aside0 (SameTo N0 wr w5) := ⟨fun k hk => by rw [hw5]; exact (below_alloc (below_alloc (below_alloc (Below.refl wr.heap.size wr) _) _) _).block k (by omega)⟩
      have hmf : ∀ (fn : Fn) (first cap : Array Value) (w : World), (Instr.makeFunc fn first cap).run Try.prog w = .ok (.func fn first cap) w := fun _ _ _ _ => rfl
      go_upto_region 17 with fail
      rw [← hN0]
      rw [show N0 + 1 + 1 = N0 + 2 from rfl]
      rw [← hw5]
      clear g0 MB hN0 hw5 HS hmf
      as_aux_lemma =>
      obtain ⟨wN, hwN⟩ : ∃ wN : World, wN = wr := ⟨_, rfl⟩
      rw [← hwN] at HF HBX HBW HK5
      clear hwN
      obtain ⟨gi, hgi⟩ : ∃ gi, gi = N0 + 1 := ⟨_, rfl⟩
      obtain ⟨gt, hgt⟩ : ∃ gt, gt = N0 + 2 := ⟨_, rfl⟩
      rw [← hgi, ← hgt] at PS ⊢
      have g0 : w5.cell? ⟨w.heap.size, 0, none⟩ = some (.int .i64 (n : Int)) := (blk_cell ((HK5.out _ HZ.out).trans HBX.out) 0).trans rfl
      clear hgi hgt
      obtain ⟨P, hP⟩ : ∃ P : Int → Bool, P = fun q => decide (0 ≤ q) && decide (q < (n : Int)) := ⟨_, rfl⟩
      have HPp := Lib.hid hP
      have hl := HL.out
      rw [← hP] at hl
      have HLP := Aside0.mk hl
      clear hP hl HL
      go_wp2_with fail
      go_loop [63] (fun v63 => ∃ i : Nat, v63 = .int .i64 i ∧ i ≤ l1.length ∧ Aside0 ((l1.drop i).all P = l1.all P)) (fun v63 => l1.length - (intOf v63).toNat)
      case atStart => exact ⟨0, rfl, Nat.zero_le _, ⟨by rw [List.drop_zero]⟩⟩
      case round =>
        obtain ⟨i, rfl, hi, HA⟩ := hrel
        by_cases hlt : i < l1.length
        · have hall := HA.out
          rw [dropR hlt, List.all_cons] at hall
          obtain ⟨ad, eA, hel⟩ := Kd.at_int (Kd.C_below HRL.out PS.out.B) (i : Int) (by omega) (by omega)
          subst eA
          simp only [Int.toNat_natCast] at hel
          obtain ⟨q, hq⟩ : ∃ q, rd l1 (i : Int) = q := ⟨_, rfl⟩
          rw [hq] at hall hel
          have hPq : P q = (decide (0 ≤ q) && decide (q < (n : Int))) := by rw [HPp.out]
          by_cases h0 : q < 0
          · rw [hPq, decide_eq_false (show ¬ 0 ≤ q by omega), Bool.false_and, Bool.false_and] at hall
            have hl := HLP.out
            rw [← hall] at hl
            simp only [Bool.false_eq_true, if_false, Option.some.injEq, Prod.mk.injEq] at hl
            obtain ⟨rfl, rfl⟩ := hl
            have t0 : decide (q < 0) = true := decide_eq_true h0
            clear hall hPq h0 hq HA
            go_wp2_with fail
            go_ret2
            exact ⟨_, rfl, Kd.R_nil _ _ _ _ _, PS.out.B⟩
          have t0 : decide (q < 0) = false := decide_eq_false h0
          by_cases h1 : q < (n : Int)
          · rw [hPq, decide_eq_true (show 0 ≤ q by omega), decide_eq_true h1, Bool.true_and, Bool.true_and] at hall
            have HA2 := Aside0.mk hall
            have t1 : decide ((n : Int) ≤ q) = false := decide_eq_false (by omega)
            clear hall hPq h0 h1 hq HA
            go_wp2_with fail
            go_round
            case rel => exact ⟨i + 1, by go_num, by omega, HA2⟩
            case measure => simp [intOf]; omega
          · rw [hPq, decide_eq_false h1, Bool.and_false, Bool.false_and] at hall
            have hl := HLP.out
            rw [← hall] at hl
            simp only [Bool.false_eq_true, if_false, Option.some.injEq, Prod.mk.injEq] at hl
            obtain ⟨rfl, rfl⟩ := hl
            have t1 : decide ((n : Int) ≤ q) = true := decide_eq_true (by omega)
            clear hall hPq h0 h1 hq HA
            go_wp2_with fail
            go_ret2
            exact ⟨_, rfl, Kd.R_nil _ _ _ _ _, PS.out.B⟩
        · have hall := HA.out
          rw [List.drop_of_length_le (by omega), List.all_nil] at hall
          have hl := HLP.out
          rw [← hall, if_pos rfl] at hl
          obtain ⟨s, hs1, hl⟩ := Option.bind_eq_some_iff.1 hl
          obtain ⟨inn, hin, hl⟩ := Option.bind_eq_some_iff.1 hl
          obtain ⟨res, hres, hl⟩ := Option.bind_eq_some_iff.1 hl
          simp only [Option.some.injEq, Prod.mk.injEq] at hl
          obtain ⟨rfl, rfl⟩ := hl
          have HS1 := Aside0.mk hs1
          have HIN := Aside0.mk hin
          have HRS := Aside0.mk hres
          have HCALL := Aside0.mk (put1_any N0 gi N0 gt n A1 c1 l1 w w5 _ s _ PS.out (fun W' hW => cInt_move HRL.out (fun k hk => (hW k (by have := HZ.out; omega)).trans (PS.out.B.block k hk))) hs1)
          clear hall hs1 hin hres HLP HPp HA hi g0
          go_wp2_with fail
          refine HCALL.out.mono ?_
          rintro e w6 ⟨rfl, vT, hP6, hK6⟩
          have PS6 := Aside0.mk hP6
          have HK6 := Aside0.mk (HK5.out.trans hK6)
          clear hP6 hK6 HCALL PS HK5
          go_wp2_with fail
          go_loopw [18] (fun v18 w7 => ∃ (i d : Nat) (si : List Bool × List Int) (vi : Value), v18 = .int .i64 i ∧ i + d = n + 1 ∧ Aside0 (PuS w w7 N0 gi N0 gt n si vi) ∧ Aside0 (SameTo N0 wN w7) ∧ Aside0 (coneV n l0_1 hsi d i si = some inn)) (fun v18 _ => n + 2 - (intOf v18).toNat)
          case atStart => exact ⟨0, n + 1, s, vT, rfl, by omega, PS6, HK6, HIN⟩
          case round =>
            clear PS6 HK6 HIN
            obtain ⟨i, d, si, vi, rfl, hid, PS, HK, HC⟩ := hrel
            have hcv := HC.out
            cases d with
            | zero => cases hcv
            | succ d =>
            simp only [coneV] at hcv
            obtain ⟨AT, cT, eT⟩ := Kd.R_slice PS.out.T
            subst eT
            have cT0 : wr.cell? ⟨gt, 0, none⟩ = some (.slice AT si.2.length cT) := (blk_cell PS.out.bT 0).trans rfl
            by_cases hlt2 : i < si.2.length
            · rw [if_pos hlt2] at hcv
              by_cases hx : 0 ≤ rd si.2 (i : Int) ∧ rd si.2 (i : Int) < (n : Int)
              rotate_left
              · rw [if_neg hx] at hcv; cases hcv
              rw [if_pos hx] at hcv
              obtain ⟨s1, e1, hcv⟩ := Option.bind_eq_some_iff.1 hcv
              by_cases hy : i < s1.2.length ∧ (0 ≤ rd s1.2 (i : Int) ∧ rd s1.2 (i : Int) < (n : Int))
              rotate_left
              · rw [if_neg hy] at hcv; cases hcv
              rw [if_pos hy] at hcv
              obtain ⟨s2, e2, hcv⟩ := Option.bind_eq_some_iff.1 hcv
              obtain ⟨x, hxx⟩ := Int.eq_ofNat_of_zero_le hx.1
              obtain ⟨y, hyy⟩ := Int.eq_ofNat_of_zero_le hy.2.1
              rw [hxx] at e1 hx
              rw [hyy] at e2 hy
              obtain ⟨ad, eA, hel⟩ := Kd.at_int (Kd.R_reads' PS.out.T).2.2 (i : Int) (by omega) (by omega)
              subst eA
              rw [hxx] at hel
              simp only [Int.toNat_natCast] at hel
              obtain ⟨af, Af, cf, eF, hrow, hlf, hCf⟩ := at_L1 HR1.out (x : Int) hx.1 (by have := HFL.out; omega)
              have hrow := pw_cell_below PS.out.B hrow
              simp only [Int.toNat_natCast] at hrow
              subst eF
              have g1 : wr.cell? ⟨w.heap.size, 1, none⟩ = some (.slice (some af) l0_1.length c0_1) := (blk_cell ((HK.out _ HZ.out).trans HBX.out) 1).trans rfl
              have hxa : (0 : Int) ≤ (x : Int) := hx.1
              have hxb : (x : Int) < (l0_1.length : Int) := by have := HFL.out; omega
              have hm5 := Kd.C_max (Kd.R_reads' PS.out.T).2.2
              have HCALL := Aside0.mk (put1_any N0 gi N0 gt n Af cf (rd_L1 l0_1 (x : Int)) w wr.drew si s1 _ (PS.out.drewN 1) (fun W' hW => cInt_move hCf (fun k hk => (hW k (by have := HZ.out; omega)).trans (PS.out.B.block k hk))) e1)
              have HE2 := Aside0.mk e2
              have HCV := Aside0.mk hcv
              have HHY := Aside0.mk (And.intro hy hyy)
              clear hcv e1 e2 hx hy hxx hyy hlf hCf HC
              go_upto_region 27 with fail
              go_still_tail 9, (by kernel_rfl)
              change wpList _ _ _ _ _ wr.drew
              clear cT0 hel hrow g1 hxa hxb
              go_wp2_with fail
              refine HCALL.out.mono ?_
              rintro e w8 ⟨rfl, v8, hP8, hK8⟩
              have PS8 := Aside0.mk hP8
              have HK8 := Aside0.mk (HK.out.trans (show SameTo N0 wr w8 from hK8))
              clear hP8 hK8 HCALL PS HK hm5 hlt2
              obtain ⟨AT8, cT8, eT8⟩ := Kd.R_slice PS8.out.T
              subst eT8
              obtain ⟨⟨hy1, hya, hyb⟩, hyy⟩ := HHY.out
              have cT8' : w8.cell? ⟨gt, 0, none⟩ = some (.slice AT8 s1.2.length cT8) := (blk_cell PS8.out.bT 0).trans rfl
              obtain ⟨ad, eA, hel⟩ := Kd.at_int (Kd.R_reads' PS8.out.T).2.2 (i : Int) (by omega) (by omega)
              subst eA
              rw [hyy] at hel
              simp only [Int.toNat_natCast] at hel
              obtain ⟨ah, Ah, ch, eH, hHF⟩ := HF.out y (by omega)
              have hrow := (hHF w8 HK8.out).1
              subst eH
              have hm5 := Kd.C_max (Kd.R_reads' PS8.out.T).2.2
              have hrc : ∀ W', SameTo N0 w8 W' → Kd.C (Kd.int .i64) W' Ah (rd_L1 hsi (y : Int)).length (rd_L1 hsi (y : Int)) := fun W' hW => (hHF W' (HK8.out.trans hW)).2
              have HCALL := Aside0.mk (put1_any N0 gi N0 gt n Ah ch (rd_L1 hsi (y : Int)) w w8 s1 s2 _ PS8.out hrc HE2.out)
              clear hHF hrc HHY hyy HE2
              go_wp2_with fail
              refine HCALL.out.mono ?_
              rintro e w9 ⟨rfl, v9, hP9, hK9⟩
              have PS9 := Aside0.mk hP9
              have HK9 := Aside0.mk (HK8.out.trans hK9)
              clear hP9 hK9 HCALL PS8 HK8 cT8' hel hrow hm5
              go_wp2_with fail
              go_roundw
              case rel => exact ⟨i + 1, d, s2, v9, by go_num, by omega, PS9, HK9, HCV⟩
              case measure => simp [intOf]; omega
            · rw [if_neg hlt2] at hcv
              have hm5 := Kd.C_max (Kd.R_reads' PS.out.T).2.2
              obtain rfl := Option.some.inj hcv
              have bI := (blk_cell PS.out.bI 0).trans rfl
              have CM := Aside0.mk (theory_marked.calls k (some ⟨N0, 0, none⟩) n si.1 res wr (by have := C_bools PS.out.bN (by rw [PS.out.sl]; omega); exact this) (by rw [PS.out.sl]; omega) HRS.out)
              rw [PS.out.sl] at CM
              clear hcv HC HRS
              go_wp2_with fail
              refine CM.out.mono ?_
              rintro e w8 ⟨v0, rfl, hR, hb⟩
              obtain ⟨A8, c8, e8⟩ := Kd.R_slice hR
              have HR8 := Aside0.mk (Kd.R_lower hR PS.out.B.size)
              have HB8 := Aside0.mk (below_step PS.out.B hb)
              subst e8
              clear hR hb CM bI cT0 hlt2
              go_wp2_with fail
              go_ret2
              exact ⟨_, rfl, HR8.out, HB8.out⟩


end Go.Proofs.Ytpcaonkahhbgfaa.P
