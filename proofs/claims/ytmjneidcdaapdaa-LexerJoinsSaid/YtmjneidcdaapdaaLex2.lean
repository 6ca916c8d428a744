/- The lexer's scanner: its memory, and what it does with what begins at a place. -/
import Derived.Test.YtmjneidcdaapdaaLex1
import Derived.Test.YtmjneidcdaapdaaLexA
namespace Go.Proofs.Ytmjneidcdaapdaa.P
open Go.RowKit Go.Proofs.YtmjneidcdaapdaaW.PrintWords Go.Proofs.YtmjneidcdaapdaaW.PrintLast Go.Proofs.YtmjneidcdaapdaaW.PrintMore
set_option linter.unusedVariables false
set_option linter.unusedSimpArgs false

theorem infoS : (Try.prog.info? 9).map (fun i => (i.zero, i.size, i.bytes)) = some (some (.string ⟨#[]⟩), 1, 16) := by kernel_rfl
theorem infoTk : (Try.prog.info? 76).map (fun i => (i.zero, i.size, i.bytes)) = some (some (.agg #[.int .i64 0, .string ⟨#[]⟩, .int .i64 0]), 3, 32) := by kernel_rfl
abbrev Tk := S76
/-- The scanner at block g: its text, place, tokens, remarks, error and its place. -/
structure ScV (w0 W : World) (g : Nat) (s : ByteArray) (p : Int) (tv : Value) (T : List Tk) (rv : Value) (R : List ByteArray) (e pl : Int) : Prop where
  blk : W.heap[g]? = some (.cells #[.string s, .int .i64 p, tv, rv, .int .i64 e, .int .i64 pl] 92 (0, 0))
  base : w0.heap.size ≤ g
  tok : Kd.R k76 76 W w0.heap.size (fun _ => True) tv T
  rem : Kd.R Kd.string 9 W w0.heap.size (fun _ => True) rv R
  below : Below w0.heap.size w0 W
def Sc (w0 W : World) (g : Nat) (s : ByteArray) (p : Int) (T : List Tk) (R : List ByteArray) (e pl : Int) : Prop := ∃ tv rv, ScV w0 W g s p tv T rv R e pl
section
variable {w0 W W1 : World} {g : Nat} {s : ByteArray} {p : Int} {tv rv : Value} {T : List Tk} {R : List ByteArray} {e pl : Int}
theorem ScV.on (h : ScV w0 W g s p tv T rv R e pl) (hb : Below W.heap.size W W1) : ScV w0 W1 g s p tv T rv R e pl :=
  ⟨blk_below h.blk hb, h.base, Kd.R_below h.tok hb, Kd.R_below h.rem hb, below_step h.below hb⟩
theorem ScV.drew (h : ScV w0 W g s p tv T rv R e pl) : ScV w0 W.drew g s p tv T rv R e pl := h.on (below_drew (Below.refl _ _))
theorem ScV.drewN (h : ScV w0 W g s p tv T rv R e pl) (m : Nat) : ScV w0 (W.drewN m) g s p tv T rv R e pl := h.on (pw_below_drewN (Below.refl _ _) m)
theorem ScV.alloc (h : ScV w0 W g s p tv T rv R e pl) (o : Obj) : ScV w0 (W.alloc o) g s p tv T rv R e pl := h.on (below_alloc (Below.refl _ _) o)
theorem ScV.rows (h : ScV w0 W g s p tv T rv R e pl) (i : Nat) (u : Value) : Kd.R k76 76 (W.setCell ⟨g, i, none⟩ u) w0.heap.size (fun _ => True) tv T ∧ Kd.R Kd.string 9 (W.setCell ⟨g, i, none⟩ u) w0.heap.size (fun _ => True) rv R :=
  ⟨Kd.R_set h.tok h.blk (by decide) i u, Kd.R_set h.rem h.blk (by decide) i u⟩
theorem ScV.at_ (h : ScV w0 W g s p tv T rv R e pl) (q : Int) : ScV w0 (W.setCell ⟨g, 1, none⟩ (.int .i64 q)) g s q tv T rv R e pl :=
  ⟨by simpa using blk_set h.blk 1 (.int .i64 q), h.base, (h.rows _ _).1, (h.rows _ _).2, below_set h.below h.base⟩
theorem ScV.err (h : ScV w0 W g s p tv T rv R e pl) (x : Int) : ScV w0 (W.setCell ⟨g, 4, none⟩ (.int .i64 x)) g s p tv T rv R x pl :=
  ⟨by simpa using blk_set h.blk 4 (.int .i64 x), h.base, (h.rows _ _).1, (h.rows _ _).2, below_set h.below h.base⟩
theorem ScV.place (h : ScV w0 W g s p tv T rv R e pl) (x : Int) : ScV w0 (W.setCell ⟨g, 5, none⟩ (.int .i64 x)) g s p tv T rv R e x :=
  ⟨by simpa using blk_set h.blk 5 (.int .i64 x), h.base, (h.rows _ _).1, (h.rows _ _).2, below_set h.below h.base⟩
theorem ScV.cells (h : ScV w0 W g s p tv T rv R e pl) : W.cell? ⟨g, 0, none⟩ = some (.string s) ∧ W.cell? ⟨g, 1, none⟩ = some (.int .i64 p) ∧ W.cell? ⟨g, 2, none⟩ = some tv ∧ W.cell? ⟨g, 3, none⟩ = some rv ∧ W.cell? ⟨g, 4, none⟩ = some (.int .i64 e) ∧ W.cell? ⟨g, 5, none⟩ = some (.int .i64 pl) ∧ ∀ i, W.frozen? ⟨g, i, none⟩ = false :=
  ⟨(blk_cell h.blk 0).trans rfl, (blk_cell h.blk 1).trans rfl, (blk_cell h.blk 2).trans rfl, (blk_cell h.blk 3).trans rfl, (blk_cell h.blk 4).trans rfl, (blk_cell h.blk 5).trans rfl, fun i => blk_frozen h.blk i⟩
/-- Tokens that grew, stored back. -/
theorem ScV.putT (h : ScV w0 W g s p tv T rv R e pl) {v1 : Value} {T1 : List Tk} (hR : Kd.R k76 76 W1 w0.heap.size (fun _ => True) v1 T1) (hg : W.grownBy W1 tv.ownBlock) : ScV w0 (W1.setCell ⟨g, 2, none⟩ v1) g s p v1 T1 rv R e pl := by
  have hb : W1.heap[g]? = _ := blk_grown h.blk hg (Kd.R_ne h.tok h.blk (by decide))
  have hr : Kd.R Kd.string 9 W1 w0.heap.size (fun _ => True) rv R := Kd.R_over' h.rem (Kd.R_typed h.tok) (by decide) hg
  have hbl : Below w0.heap.size w0 W1 := h.below.grown hg h.below.size (fun k hk => Kd.R_base h.tok k hk)
  exact ⟨by simpa using blk_set hb 2 v1, h.base, Kd.R_set hR hb (by decide) 2 v1, Kd.R_set hr hb (by decide) 2 v1, below_set hbl h.base⟩
theorem ScV.putR (h : ScV w0 W g s p tv T rv R e pl) {v1 : Value} {R1 : List ByteArray} (hR : Kd.R Kd.string 9 W1 w0.heap.size (fun _ => True) v1 R1) (hg : W.grownBy W1 rv.ownBlock) : ScV w0 (W1.setCell ⟨g, 3, none⟩ v1) g s p tv T v1 R1 e pl := by
  have hb : W1.heap[g]? = _ := blk_grown h.blk hg (Kd.R_ne h.rem h.blk (by decide))
  have hr : Kd.R k76 76 W1 w0.heap.size (fun _ => True) tv T := Kd.R_over' h.tok (Kd.R_typed h.rem) (by decide) hg
  have hbl : Below w0.heap.size w0 W1 := h.below.grown hg h.below.size (fun k hk => Kd.R_base h.rem k hk)
  exact ⟨by simpa using blk_set hb 3 v1, h.base, Kd.R_set hr hb (by decide) 3 v1, Kd.R_set hR hb (by decide) 3 v1, below_set hbl h.base⟩
end
theorem ret_b {a b : Bool} (h : a = b) : Ending.returned (.bool a) = .returned (.bool b) := by rw [h]
/-- What is done with what begins at a place: go on or not, and the scanner behind it. -/
abbrev Rs := Bool × Nat × List Tk × List ByteArray × Int × Int
def NP (w0 : World) (g : Nat) (s : ByteArray) (r : Rs) (e : Ending) (w' : World) : Prop := e = .returned (.bool r.1) ∧ Sc w0 w' g s r.2.1 r.2.2.1 r.2.2.2.1 r.2.2.2.2.1 r.2.2.2.2.2
theorem inName_any (k : Int) (w : World) : Calls Try.prog 101 #[.int .i64 k] w fun e w' => e = .returned (.bool (gN k)) ∧ w = w' := by
  rcases h2 : (k == 2) with _ | _ <;> rcases h4 : (k == 4) with _ | _ <;> rcases h5 : (k == 5) with _ | _
  all_goals
    have hg : Hid (gN k = ((k == 2) || ((k == 4) || (k == 5)))) := Lib.hid rfl
    go_enter Try.func101, Try.ntmps101
    go_wp2_with fail
    go_ret
    exact ⟨ret_b (by rw [hg.out, h2, h4, h5]; rfl), rfl⟩
theorem digit_any (k : Int) (w : World) : Calls Try.prog 128 #[.int .i64 k] w fun e w' => e = .returned (.bool (gD k)) ∧ w = w' := by
  go_enter Try.func128, Try.ntmps128
  go_wp2_with fail
  go_ret
  exact ⟨rfl, rfl⟩
theorem inVar_any (k : Int) (w : World) : Calls Try.prog 103 #[.int .i64 k] w fun e w' => e = .returned (.bool (gV k)) ∧ w = w' := by
  have hg : Hid (gV k = (gN k || (k == 3))) := Lib.hid rfl
  rcases h2 : gN k with _ | _ <;> rcases h3 : (k == 3) with _ | _
  all_goals
    have H2 := Lib.hid h2
    clear h2
    go_enter Try.func103, Try.ntmps103
    go_wp2_with fail
    refine (inName_any _ _).mono ?_
    rintro e w' ⟨rfl, rfl⟩
    rw [H2.out]
    go_wp2_with fail
    go_ret
    exact ⟨ret_b (by rw [hg.out, H2.out, h3]; rfl), rfl⟩
theorem fail_any {w0 w : World} {g : Nat} {s : ByteArray} {p : Nat} {T : List Tk} {R : List ByteArray} {e pl : Int} (x y : Int) (h : Sc w0 w g s p T R e pl) :
    Calls Try.prog 67 #[.pointer (some ⟨g, 0, none⟩), .int .i64 x, .int .i64 y] w (NP w0 g s (false, p, T, R, x, y)) := by
  obtain ⟨tv, rv, h⟩ := h
  obtain ⟨c0, c1, c2, c3, c4, c5, fz⟩ := h.cells
  have f4 := fz 4
  have f5 := fz 5
  have H := Aside0.mk ((h.err x).place y)
  clear fz h
  go_enter Try.func67, Try.ntmps67
  go_wp2_with fail
  go_ret
  exact ⟨rfl, _, _, H.out⟩
theorem blank_any {w0 w : World} {g : Nat} {s : ByteArray} {p : Nat} {T : List Tk} {R : List ByteArray} {e pl : Int} (hp : p ≤ 65536) (h : Sc w0 w g s p T R e pl) :
    Calls Try.prog 98 #[.pointer (some ⟨g, 0, none⟩)] w (NP w0 g s (true, p + 1, T, R, e, pl)) := by
  obtain ⟨tv, rv, h⟩ := h
  obtain ⟨c0, c1, c2, c3, c4, c5, fz⟩ := h.cells
  have f1 := fz 1
  have H := Aside0.mk (h.at_ ((p : Int) + 1))
  clear fz h
  go_enter Try.func98, Try.ntmps98
  go_wp2_with fail
  go_ret
  exact ⟨rfl, _, _, by simpa using H.out⟩
def putP (s : ByteArray) (p : Nat) (k : Int) (q : Nat) (T : List Tk) (R : List ByteArray) : Rs :=
  if q < s.size ∧ gV (clsI (bt s q)) = true then (false, q, T ++ [⟨k, s.extract p q, p⟩], R, 41, q) else (true, q, T ++ [⟨k, s.extract p q, p⟩], R, 0, 0)
set_option maxHeartbeats 1000000 in
set_option maxRecDepth 100000 in
theorem put_any {w0 w : World} {g : Nat} {s : ByteArray} {p : Nat} {T : List Tk} {R : List ByteArray} (k : Int) (q : Nat) (hs : s.size ≤ 65536) (hpq : p ≤ q) (hq : q ≤ s.size) (hT : T.length ≤ 65536) (h : Sc w0 w g s p T R 0 0) :
    Calls Try.prog 126 #[.pointer (some ⟨g, 0, none⟩), .int .i64 k, .int .i64 q] w (NP w0 g s (putP s p k q T R)) := by
  obtain ⟨tv, rv, h⟩ := h
  obtain ⟨At, ct, et⟩ := Kd.R_slice h.tok
  subst et
  obtain ⟨c0, c1, c2, c3, c4, c5, fz⟩ := h.cells
  have H := Aside0.mk h
  have FZ := Aside0.mk fz
  have i1 : (0 : Int) ≤ (p : Int) := by omega
  have i2 : (p : Int) ≤ (q : Int) := by omega
  have i3 : (q : Int) ≤ (s.size : Int) := by omega
  clear fz h
  go_enter Try.func126, Try.ntmps126
  go_wp2_with fail
  refine start_ (n := 26) (S := fun w' => w'.cell? ⟨g, 0, none⟩ = some (.string s) ∧ w'.cell? ⟨g, 1, none⟩ = some (.int .i64 p) ∧ w'.cell? ⟨g, 2, none⟩ = some (.slice At T.length ct)) (ds := [25]) #[false, false, false, false, false, false, false, false, false, false, false, false, false, false, false, false, false, false, false, false, false, false, false, false, false, false] (by kernel_rfl) rfl rfl (⟨c0, c1, c2⟩) (fun hHeld => ?_)
  refine pure_ (i := 0) (N := some 7) (v := ?_) (a' := ?_) #[true, false, false, false, false, false, false, false, false, false, false, false, false, false, false, false, false, false, false, false, false, false, false, false, false, false] rfl rfl (by kernel_rfl) (fun _ _ _ h => h) (Or.inl ⟨by rfl, ?_⟩) ?_ ?_
  rotate_left
  · intro w'
    go_simp
    with_reducible rfl
  rotate_left
  · simp only [Act.put, List.setIfInBounds_toArray, List.set_cons_zero, List.set_cons_succ, i64_w, i32_w]
    rfl
  refine pure_ (i := 1) (N := some 8) (v := ?_) (a' := ?_) #[true, true, false, false, false, false, false, false, false, false, false, false, false, false, false, false, false, false, false, false, false, false, false, false, false, false] rfl rfl (by kernel_rfl) (fun _ _ _ h => h) (Or.inl ⟨by rfl, ?_⟩) ?_ ?_
  rotate_left
  · intro w'
    go_simp
    with_reducible rfl
  rotate_left
  · simp only [Act.put, List.setIfInBounds_toArray, List.set_cons_zero, List.set_cons_succ, i64_w, i32_w]
    rfl
  refine pure_ (i := 2) (N := some 9) (v := ?_) (a' := ?_) #[true, true, true, false, false, false, false, false, false, false, false, false, false, false, false, false, false, false, false, false, false, false, false, false, false, false] rfl rfl (by kernel_rfl) (fun _ _ _ h => h) (Or.inl ⟨by rfl, ?_⟩) ?_ ?_
  rotate_left
  · intro w'
    go_simp
    with_reducible rfl
  rotate_left
  · simp only [Act.put, List.setIfInBounds_toArray, List.set_cons_zero, List.set_cons_succ, i64_w, i32_w]
    rfl
  refine pure_ (i := 3) (N := some 10) (v := ?_) (a' := ?_) #[true, true, true, true, false, false, false, false, false, false, false, false, false, false, false, false, false, false, false, false, false, false, false, false, false, false] rfl rfl (by kernel_rfl) (fun _ _ _ h => h) (Or.inl ⟨by rfl, ?_⟩) ?_ ?_
  rotate_left
  · intro w'
    go_simp
    with_reducible rfl
  rotate_left
  · simp only [Act.put, List.setIfInBounds_toArray, List.set_cons_zero, List.set_cons_succ, i64_w, i32_w]
    rfl
  refine pure_ (i := 5) (N := some 12) (v := ?_) (a' := ?_) #[true, true, true, true, false, true, false, false, false, false, false, false, false, false, false, false, false, false, false, false, false, false, false, false, false, false] rfl rfl (by kernel_rfl) (fun _ _ _ h => h) (Or.inl ⟨by rfl, ?_⟩) ?_ ?_
  rotate_left
  · intro w'
    go_simp
    with_reducible rfl
  rotate_left
  · simp only [Act.put, List.setIfInBounds_toArray, List.set_cons_zero, List.set_cons_succ, i64_w, i32_w]
    rfl
  refine pure_ (i := 6) (N := some 13) (v := ?_) (a' := ?_) #[true, true, true, true, false, true, true, false, false, false, false, false, false, false, false, false, false, false, false, false, false, false, false, false, false, false] rfl rfl (by kernel_rfl) (fun _ _ _ h => h) (Or.inl ⟨by rfl, ?_⟩) ?_ ?_
  rotate_left
  · intro w'
    go_simp
    with_reducible rfl
  rotate_left
  · simp only [Act.put, List.setIfInBounds_toArray, List.set_cons_zero, List.set_cons_succ, i64_w, i32_w]
    rfl
  refine pure_ (i := 7) (N := some 14) (v := ?_) (a' := ?_) #[true, true, true, true, false, true, true, true, false, false, false, false, false, false, false, false, false, false, false, false, false, false, false, false, false, false] rfl rfl (by kernel_rfl) (fun _ _ _ h => h) (Or.inl ⟨by rfl, ?_⟩) ?_ ?_
  rotate_left
  · intro w'
    go_simp
    with_reducible rfl
  rotate_left
  · simp only [Act.put, List.setIfInBounds_toArray, List.set_cons_zero, List.set_cons_succ, i64_w, i32_w]
    rfl
  refine pure_ (i := 8) (N := some 15) (v := ?_) (a' := ?_) #[true, true, true, true, false, true, true, true, true, false, false, false, false, false, false, false, false, false, false, false, false, false, false, false, false, false] rfl rfl (by kernel_rfl) (fun _ _ _ h => h) (Or.inl ⟨by rfl, ?_⟩) ?_ ?_
  rotate_left
  · intro w'
    go_simp
    with_reducible rfl
  rotate_left
  · simp only [Act.put, List.setIfInBounds_toArray, List.set_cons_zero, List.set_cons_succ, i64_w, i32_w]
    rfl
  refine pure_ (i := 10) (N := some 17) (v := ?_) (a' := ?_) #[true, true, true, true, false, true, true, true, true, false, true, false, false, false, false, false, false, false, false, false, false, false, false, false, false, false] rfl rfl (by kernel_rfl) (fun _ _ _ h => h) (Or.inl ⟨by rfl, ?_⟩) ?_ ?_
  rotate_left
  · intro w'
    go_simp
    with_reducible rfl
  rotate_left
  · simp only [Act.put, List.setIfInBounds_toArray, List.set_cons_zero, List.set_cons_succ, i64_w, i32_w]
    rfl
  refine pure_ (i := 11) (N := some 18) (v := ?_) (a' := ?_) #[true, true, true, true, false, true, true, true, true, false, true, true, false, false, false, false, false, false, false, false, false, false, false, false, false, false] rfl rfl (by kernel_rfl) (fun _ _ _ h => h) (Or.inl ⟨by rfl, ?_⟩) ?_ ?_
  rotate_left
  · intro w'
    go_simp
    with_reducible rfl
  rotate_left
  · simp only [Act.put, List.setIfInBounds_toArray, List.set_cons_zero, List.set_cons_succ, i64_w, i32_w]
    rfl
  refine pure_ (i := 12) (N := some 19) (v := ?_) (a' := ?_) #[true, true, true, true, false, true, true, true, true, false, true, true, true, false, false, false, false, false, false, false, false, false, false, false, false, false] rfl rfl (by kernel_rfl) (fun _ _ _ h => h) (Or.inl ⟨by rfl, ?_⟩) ?_ ?_
  rotate_left
  · intro w'
    go_simp
    with_reducible rfl
  rotate_left
  · simp only [Act.put, List.setIfInBounds_toArray, List.set_cons_zero, List.set_cons_succ, i64_w, i32_w]
    rfl
  refine pure_ (i := 14) (N := some 21) (v := ?_) (a' := ?_) #[true, true, true, true, false, true, true, true, true, false, true, true, true, false, true, false, false, false, false, false, false, false, false, false, false, false] rfl rfl (by kernel_rfl) (fun _ _ _ h => h) (Or.inl ⟨by rfl, ?_⟩) ?_ ?_
  rotate_left
  · intro w'
    go_simp
    with_reducible rfl
  rotate_left
  · simp only [Act.put, List.setIfInBounds_toArray, List.set_cons_zero, List.set_cons_succ, i64_w, i32_w]
    rfl
  refine pure_ (i := 16) (N := some 23) (v := ?_) (a' := ?_) #[true, true, true, true, false, true, true, true, true, false, true, true, true, false, true, false, true, false, false, false, false, false, false, false, false, false] rfl rfl (by kernel_rfl) (fun _ _ _ h => h) (Or.inl ⟨by rfl, ?_⟩) ?_ ?_
  rotate_left
  · intro w'
    go_simp
    with_reducible rfl
  rotate_left
  · simp only [Act.put, List.setIfInBounds_toArray, List.set_cons_zero, List.set_cons_succ, i64_w, i32_w]
    rfl
  refine pure_ (i := 17) (N := some 24) (v := ?_) (a' := ?_) #[true, true, true, true, false, true, true, true, true, false, true, true, true, false, true, false, true, true, false, false, false, false, false, false, false, false] rfl rfl (by kernel_rfl) (fun _ _ _ h => h) (Or.inl ⟨by rfl, ?_⟩) ?_ ?_
  rotate_left
  · intro w'
    go_simp
    with_reducible rfl
  rotate_left
  · simp only [Act.put, List.setIfInBounds_toArray, List.set_cons_zero, List.set_cons_succ, i64_w, i32_w]
    rfl
  refine pure_ (i := 18) (N := some 25) (v := ?_) (a' := ?_) #[true, true, true, true, false, true, true, true, true, false, true, true, true, false, true, false, true, true, true, false, false, false, false, false, false, false] rfl rfl (by kernel_rfl) (fun _ _ _ h => h) (Or.inl ⟨by rfl, ?_⟩) ?_ ?_
  rotate_left
  · intro w'
    go_simp
    with_reducible rfl
  rotate_left
  · simp only [Act.put, List.setIfInBounds_toArray, List.set_cons_zero, List.set_cons_succ, i64_w, i32_w]
    rfl
  refine take_ (i := 4) (N := some 11) (v := ?_) (a' := ?_) #[true, true, true, true, true, true, true, true, true, false, true, true, true, false, true, false, true, true, true, false, false, false, false, false, false, false] rfl rfl (by kernel_rfl) (fun _ _ _ h => h) (Or.inl ⟨by rfl, ?_⟩) hHeld ?_ ?_
  rotate_left
  · rintro w' ⟨s0, s1, s2⟩
    go_simp
    with_reducible rfl
  rotate_left
  · simp only [Act.put, List.setIfInBounds_toArray, List.set_cons_zero, List.set_cons_succ, i64_w, i32_w]
    rfl
  refine take_ (i := 9) (N := some 16) (v := ?_) (a' := ?_) #[true, true, true, true, true, true, true, true, true, true, true, true, true, false, true, false, true, true, true, false, false, false, false, false, false, false] rfl rfl (by kernel_rfl) (fun _ _ _ h => h) (Or.inl ⟨by rfl, ?_⟩) hHeld ?_ ?_
  rotate_left
  · rintro w' ⟨s0, s1, s2⟩
    go_simp
    with_reducible rfl
  rotate_left
  · simp only [Act.put, List.setIfInBounds_toArray, List.set_cons_zero, List.set_cons_succ, i64_w, i32_w]
    rfl
  refine take_ (i := 13) (N := some 20) (v := ?_) (a' := ?_) #[true, true, true, true, true, true, true, true, true, true, true, true, true, true, true, false, true, true, true, false, false, false, false, false, false, false] rfl rfl (by kernel_rfl) (fun _ _ _ h => h) (Or.inl ⟨by rfl, ?_⟩) hHeld ?_ ?_
  rotate_left
  · rintro w' ⟨s0, s1, s2⟩
    go_simp
    with_reducible rfl
  rotate_left
  · simp only [Act.put, List.setIfInBounds_toArray, List.set_cons_zero, List.set_cons_succ, i64_w, i32_w]
    rfl
  refine take_ (i := 19) (N := some 26) (v := ?_) (a' := ?_) #[true, true, true, true, true, true, true, true, true, true, true, true, true, true, true, false, true, true, true, true, false, false, false, false, false, false] rfl rfl (by kernel_rfl) (fun _ _ _ h => h) (Or.inl ⟨by rfl, ?_⟩) hHeld ?_ ?_
  rotate_left
  · rintro w' ⟨s0, s1, s2⟩
    go_simp
    with_reducible rfl
  rotate_left
  · simp only [Act.put, List.setIfInBounds_toArray, List.set_cons_zero, List.set_cons_succ, i64_w, i32_w]
    rfl
  refine one_ (i := 15) (N := some 22) #[true, true, true, true, true, true, true, true, true, true, true, true, true, true, true, true, true, true, true, true, false, false, false, false, false, false] rfl rfl (by kernel_rfl) (by decide) (fun K hK => ?_)
  refine value_ (w1 := ?_) (v := ?_) (by rfl) rfl ?_ ?_
  rotate_left 2
  · go_simp
    constructor
    · rfl
    · rfl
  refine hK.out _ _ (⟨c0, c1, c2⟩) (fun hHeld => ?_)
  clear hK K
  refine norm_ (a' := ?_) ?_ ?_
  rotate_left
  · show Act.put _ (some 22) _ = _
    simp only [Act.put, List.setIfInBounds_toArray, List.set_cons_zero, List.set_cons_succ, i64_w, i32_w]
    rfl
  refine pure_ (i := 20) (N := some 27) (v := ?_) (a' := ?_) #[true, true, true, true, true, true, true, true, true, true, true, true, true, true, true, true, true, true, true, true, true, false, false, false, false, false] rfl rfl (by kernel_rfl) (fun _ _ _ h => h) (Or.inl ⟨by rfl, ?_⟩) ?_ ?_
  rotate_left
  · intro w'
    go_simp
    with_reducible rfl
  rotate_left
  · simp only [Act.put, List.setIfInBounds_toArray, List.set_cons_zero, List.set_cons_succ, i64_w, i32_w]
    rfl
  refine one_ (i := 21) (N := some 28) #[true, true, true, true, true, true, true, true, true, true, true, true, true, true, true, true, true, true, true, true, true, true, false, false, false, false] rfl rfl (by kernel_rfl) (by decide) (fun K hK => ?_)
  have HA := (H.out.drew.alloc (.cells #[.int .i64 k, .string (s.extract p q), .int .i64 p] 76 (0, 0))).cells
  refine value_ (w1 := ?_) (v := ?_) (by rfl) rfl ?_ ?_
  rotate_left 2
  · go_simp
    constructor
    · rfl
    · rfl
  refine hK.out _ _ (⟨HA.1, HA.2.1, HA.2.2.1⟩) (fun hHeld => ?_)
  clear hK K
  refine norm_ (a' := ?_) ?_ ?_
  rotate_left
  · show Act.put _ (some 28) _ = _
    simp only [Act.put, List.setIfInBounds_toArray, List.set_cons_zero, List.set_cons_succ, i64_w, i32_w]
    rfl
  refine one_ (i := 22) (N := some 29) #[true, true, true, true, true, true, true, true, true, true, true, true, true, true, true, true, true, true, true, true, true, true, true, false, false, false] rfl rfl (by kernel_rfl) (by decide) (fun K hK => ?_)
  refine Kd.R_append_step k76 (w0 := w0) (W := w.drew) w0.heap.size (by simp [Region.wanted]) (.tmp 11) (.tmp 28) 30 76 (.agg #[.int .i64 0, .string ⟨#[]⟩, .int .i64 0]) 32 rfl Try.underlying30 infoTk rfl (by decide) (by omega) (.slice At T.length ct) T ⟨k, s.extract p q, p⟩ [.int .i64 k, .string (s.extract p q), .int .i64 p] (fun _ => True) (fun _ => False) (by rfl) (by rfl) (k76_mkM _ _ _ ⟨k, s.extract p q, p⟩) (fun _ h => h.elim) (fun _ _ => trivial) H.out.drew.tok H.out.drew.below H.out.drew.below.size (by omega) ?_
  intro vn w6 hR hB hg hat
  have el : (T ++ [(⟨k, s.extract p q, p⟩ : Tk)]).length = T.length + 1 := by simp
  obtain ⟨Ao, co, eo⟩ := Kd.R_slice hR
  rw [el] at eo
  subst eo
  clear el
  have HP := Aside0.mk (H.out.drew.putT hR hg)
  have hbk := blk_grown H.out.drew.blk hg (Kd.R_ne H.out.drew.tok H.out.drew.blk (by decide))
  have d0 := (blk_cell hbk 0).trans rfl
  have d1 := (blk_cell hbk 1).trans rfl
  have d2 := (blk_cell hbk 2).trans rfl
  have f2 := blk_frozen hbk 2
  refine hK.out _ _ (⟨d0, d1, d2⟩) (fun hHeld => ?_)
  clear hK K
  refine norm_ (a' := ?_) ?_ ?_
  rotate_left
  · show Act.put _ (some 29) _ = _
    simp only [Act.put, List.setIfInBounds_toArray, List.set_cons_zero, List.set_cons_succ, i64_w, i32_w]
    rfl
  refine pure_ (i := 23) (N := some 30) (v := ?_) (a' := ?_) #[true, true, true, true, true, true, true, true, true, true, true, true, true, true, true, true, true, true, true, true, true, true, true, true, false, false] rfl rfl (by kernel_rfl) (fun _ _ _ h => h) (Or.inl ⟨by rfl, ?_⟩) ?_ ?_
  rotate_left
  · intro w'
    go_simp
    with_reducible rfl
  rotate_left
  · simp only [Act.put, List.setIfInBounds_toArray, List.set_cons_zero, List.set_cons_succ, i64_w, i32_w]
    rfl
  refine pure_ (i := 24) (N := some 31) (v := ?_) (a' := ?_) #[true, true, true, true, true, true, true, true, true, true, true, true, true, true, true, true, true, true, true, true, true, true, true, true, true, false] rfl rfl (by kernel_rfl) (fun _ _ _ h => h) (Or.inl ⟨by rfl, ?_⟩) ?_ ?_
  rotate_left
  · intro w'
    go_simp
    with_reducible rfl
  rotate_left
  · simp only [Act.put, List.setIfInBounds_toArray, List.set_cons_zero, List.set_cons_succ, i64_w, i32_w]
    rfl
  refine last_ (i := 25) (N := none) #[true, true, true, true, true, true, true, true, true, true, true, true, true, true, true, true, true, true, true, true, true, true, true, true, true, true] rfl rfl (by kernel_rfl) (by decide) (fun K hK => ?_)
  refine skip_ (w1 := ?_) (by rfl) rfl ?_ ?_
  rotate_left
  · go_simp
    rfl
  refine hK.out _ _ ?_
  clear hK K
  refine done_ (by kernel_rfl) ?_
  clear c0 c1 c2 c3 c4 c5 H FZ hR hB hg hat hbk d0 d1 d2 f2 HA
  generalize w6.setCell ⟨g, 2, none⟩ (.slice Ao (T.length + 1) co) = w7 at HP ⊢
  as_aux_lemma =>
  have H3 := Aside0.mk (HP.out.at_ (q : Int))
  obtain ⟨c0, c1, c2, c3, c4, c5, fz⟩ := HP.out.cells
  have f1 := fz 1
  clear fz
  by_cases hlt : q < s.size
  · have hbg := Lib.hid (bt_get s q hlt)
    rcases hv : gV (clsI ((s[q]'hlt).toNat : Int)) with _ | _
    · have HR : Hid (putP s p k q T R = (true, q, T ++ [⟨k, s.extract p q, p⟩], R, 0, 0)) := Lib.hid (by
        unfold putP
        rw [if_neg (by rw [hbg.out, hv]; simp)])
      have HV := Lib.hid hv
      clear hv
      go_wp2_with fail
      refine (classOf_any _ _).mono ?_
      rintro e w' ⟨rfl, rfl⟩
      go_wp2_with fail
      refine (inVar_any _ _).mono ?_
      rintro e w' ⟨rfl, rfl⟩
      rw [HV.out]
      go_wp2_with fail
      go_ret
      rw [HR.out]
      exact ⟨rfl, _, _, H3.out⟩
    · have HR : Hid (putP s p k q T R = ((false, q, T ++ [⟨k, s.extract p q, p⟩], R, (41 : Int), (q : Int)) : Rs)) := Lib.hid (by
        unfold putP
        rw [if_pos ⟨hlt, by rw [hbg.out, hv]⟩])
      have HV := Lib.hid hv
      clear hv
      go_wp2_with fail
      refine (classOf_any _ _).mono ?_
      rintro e w' ⟨rfl, rfl⟩
      go_wp2_with fail
      refine (inVar_any _ _).mono ?_
      rintro e w' ⟨rfl, rfl⟩
      rw [HV.out]
      go_wp2_with fail
      refine (fail_any (p := q) 41 (q : Int) ⟨_, _, H3.out⟩).mono ?_
      rintro e w' ⟨rfl, hE⟩
      go_wp2_with fail
      go_ret
      rw [HR.out]
      exact ⟨rfl, hE⟩
  · have HR : Hid (putP s p k q T R = (true, q, T ++ [⟨k, s.extract p q, p⟩], R, 0, 0)) := Lib.hid (by
      unfold putP
      rw [if_neg (by omega)])
    go_wp2_with fail
    go_ret
    rw [HR.out]
    exact ⟨rfl, _, _, H3.out⟩
def wordP (s : ByteArray) (p : Nat) (k : Int) (G : Int → Bool) (T : List Tk) (R : List ByteArray) : Rs :=
  if 32 < runI s G p - p then (false, p, T, R, 5, p) else putP s p k (runI s G p) T R
theorem runN_le (s : ByteArray) (G : Int → Bool) : ∀ (n p : Nat), p ≤ runN s G n p ∧ runN s G n p ≤ p + n
  | 0, p => ⟨Nat.le_refl _, Nat.le_refl _⟩
  | n + 1, p => by
    simp only [runN]
    split
    · have := runN_le s G n (p + 1); omega
    · omega
theorem runI_le (s : ByteArray) (G : Int → Bool) {p : Nat} (h : p ≤ s.size) : p ≤ runI s G p ∧ runI s G p ≤ s.size := by
  have := runN_le s G (s.size - p) p
  unfold runI
  omega
theorem word_any {w0 w : World} {g : Nat} {s : ByteArray} {p : Nat} {T : List Tk} {R : List ByteArray} (k : Int) (n : Nat) (G : Int → Bool) (hs : s.size ≤ 65536) (hp : p ≤ s.size) (hT : T.length ≤ 65536) (hlow : LowG G) (hen : ∀ args W, (callFunc n args).run Try.prog W = .ok (.enter n args) W)
    (hgood : ∀ k W, Calls Try.prog n #[.int .i64 k] W fun e w' => e = .returned (.bool (G k)) ∧ W = w') (h : Sc w0 w g s p T R 0 0) :
    Calls Try.prog 100 #[.pointer (some ⟨g, 0, none⟩), .int .i64 k, .func (.func n) #[] #[]] w (NP w0 g s (wordP s p k G T R)) := by
  obtain ⟨tv, rv, h⟩ := h
  obtain ⟨c0, c1, c2, c3, c4, c5, fz⟩ := h.cells
  have H := Aside0.mk h
  have HG := Aside0.mk hgood
  have HL := Aside0.mk hlow
  have HE := Aside0.mk hen
  obtain ⟨l1, l2⟩ := runI_le s G hp
  clear fz h hgood hen
  go_enter Try.func100, Try.ntmps100
  go_wp2_with fail
  refine (run_any g s p n G w c0 hp hs HL.out HE.out HG.out).mono ?_
  rintro e w1 ⟨rfl, hb⟩
  have H1 := Aside0.mk (H.out.on hb)
  obtain ⟨d0, d1, d2, d3, d4, d5, _⟩ := H1.out.cells
  clear c0 c1 c2 c3 c4 c5 hb H
  obtain ⟨q, hq⟩ : ∃ q, q = runI s G p := ⟨_, rfl⟩
  rw [← hq] at l1 l2 ⊢
  have HQ := Lib.hid hq
  clear hq
  by_cases h32 : 32 < q - p
  · have t32 : (32 : Int) < (q : Int) - p := by omega
    have HR : Hid (wordP s p k G T R = ((false, p, T, R, (5 : Int), (p : Int)) : Rs)) := Lib.hid (by unfold wordP; rw [← HQ.out, if_pos h32])
    clear h32
    go_wp2_with fail
    refine (fail_any (p := p) 5 (p : Int) ⟨_, _, H1.out⟩).mono ?_
    rintro e w' ⟨rfl, hE⟩
    go_wp2_with fail
    go_ret
    rw [HR.out]
    exact ⟨rfl, hE⟩
  · have t32 : ¬ (32 : Int) < (q : Int) - p := by omega
    have HR : Hid (wordP s p k G T R = putP s p k q T R) := Lib.hid (by unfold wordP; rw [← HQ.out, if_neg h32])
    clear h32
    go_wp2_with fail
    refine (put_any k q hs l1 l2 hT ⟨_, _, H1.out⟩).mono ?_
    rintro e w' ⟨rfl, hE⟩
    go_wp2_with fail
    go_ret
    rw [HR.out]
    exact ⟨rfl, hE⟩
end Go.Proofs.Ytmjneidcdaapdaa.P
