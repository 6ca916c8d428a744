/- The lexer's scanner: a whole text. -/
import Derived.Test.YtmjneidcdaapdaaLex6
namespace Go.Proofs.Ytmjneidcdaapdaa.P
open Go.RowKit Go.Proofs.YtmjneidcdaapdaaW.PrintWords Go.Proofs.YtmjneidcdaapdaaW.PrintLast Go.Proofs.YtmjneidcdaapdaaW.PrintMore
set_option linter.unusedVariables false
set_option linter.unusedSimpArgs false

def nexP (s : ByteArray) (p : Nat) (T : List Tk) (R : List ByteArray) : Rs :=
  if clsI (bt s p) = 1 then (true, p + 1, T, R, 0, 0) else if clsI (bt s p) = 2 then wordP s p 1 gN T R else if clsI (bt s p) = 3 then wordP s p 2 gV T R else if clsI (bt s p) = 4 then numP s p T R else
  if bt s p = 34 then quoP s p T R else if bt s p = 35 then remP s p T R else marP s p T R
/-- A function value that does what is to be done at a place. -/
def NextV (w0 : World) (g : Nat) (s : ByteArray) (r : Rs) (v : Value) (w' : World) : Prop :=
  ∃ n bnd fr, v = .func (.func n) bnd fr ∧ (∀ args W, (callFunc n args).run Try.prog W = .ok (.enter n args) W) ∧ Calls Try.prog n (bnd ++ fr) w' (NP w0 g s r)
def NextP (w0 w : World) (g : Nat) (s : ByteArray) (r : Rs) (e : Ending) (w' : World) : Prop := ∃ v, e = .returned v ∧ Below w.heap.size w w' ∧ NextV w0 g s r v w'
theorem next1_any {w0 w : World} {g b : Nat} {s : ByteArray} {p : Nat} {T : List Tk} {R : List ByteArray} (hs : s.size ≤ 65536) (hp : p ≤ s.size) (hT : T.length ≤ 65536) (h : Sc w0 w g s p T R 0 0) (hb : w.cell? ⟨b, 0, none⟩ = some (.pointer (some ⟨g, 0, none⟩))) :
    Calls Try.prog 99 #[.pointer (some ⟨b, 0, none⟩)] w (NP w0 g s (wordP s p 1 gN T R)) := by
  have H := Aside0.mk h
  clear h
  go_enter Try.func99, Try.ntmps99
  go_wp2_with fail
  refine (word_any 1 101 gN hs hp hT lowN dgN inName_any H.out).mono ?_
  rintro e w' ⟨rfl, hE⟩
  go_wp2_with fail
  go_ret
  exact ⟨rfl, hE⟩
theorem next2_any {w0 w : World} {g b : Nat} {s : ByteArray} {p : Nat} {T : List Tk} {R : List ByteArray} (hs : s.size ≤ 65536) (hp : p ≤ s.size) (hT : T.length ≤ 65536) (h : Sc w0 w g s p T R 0 0) (hb : w.cell? ⟨b, 0, none⟩ = some (.pointer (some ⟨g, 0, none⟩))) :
    Calls Try.prog 102 #[.pointer (some ⟨b, 0, none⟩)] w (NP w0 g s (wordP s p 2 gV T R)) := by
  have H := Aside0.mk h
  clear h
  go_enter Try.func102, Try.ntmps102
  go_wp2_with fail
  refine (word_any 2 103 gV hs hp hT lowV dgV inVar_any H.out).mono ?_
  rintro e w' ⟨rfl, hE⟩
  go_wp2_with fail
  go_ret
  exact ⟨rfl, hE⟩
theorem quiet_w {P : Program} {f : FuncId} {args : Array Value} {w : World} {n : Nat} {v : Value} (h : Calls P f args (w.drewN n) fun e w' => e = .returned v ∧ w.drewN n = w') :
    Calls P f args (w.drewN n) fun e w'' => e = .returned v ∧ ∃ m, w'' = w.drewN m :=
  h.mono fun _ _ ⟨he, hw⟩ => ⟨he, n, hw.symm⟩
set_option maxHeartbeats 2000000 in
set_option maxRecDepth 100000 in
theorem next_any {w0 w : World} {g : Nat} {s : ByteArray} {p : Nat} {T : List Tk} {R : List ByteArray} (hs : s.size ≤ 65536) (hp : p < s.size) (hT : T.length ≤ 65536) (hRl : R.length ≤ 65536) (h : Sc w0 w g s p T R 0 0) :
    Calls Try.prog 68 #[.pointer (some ⟨g, 0, none⟩)] w (NextP w0 w g s (nexP s p T R)) := by
  obtain ⟨tv, rv, h⟩ := h
  obtain ⟨c0, c1, _⟩ := h.cells
  have hlt := blk_lt h.blk
  have H := Aside0.mk (h.alloc (.cells #[.pointer (some ⟨g, 0, none⟩)] 89 (0, 0)))
  have HBX := Aside0.mk (blk_new w (.cells #[.pointer (some ⟨g, 0, none⟩)] 89 (0, 0)))
  have HB := Aside0.mk (below_alloc (Below.refl w.heap.size w) (.cells #[.pointer (some ⟨g, 0, none⟩)] 89 (0, 0)))
  have i1 : (0 : Int) ≤ (p : Int) := by omega
  have i2 : (p : Int) < (s.size : Int) := by omega
  have hbg := bt_get s p hp
  obtain ⟨k, hk⟩ : ∃ k, k = clsI ((s[p]'hp).toNat : Int) := ⟨_, rfl⟩
  have hbd := cls_bd ((s[p]'hp).toNat : Int)
  rw [← hk] at hbd
  have HK := Lib.hid hk
  have HBG := Lib.hid hbg
  clear h hk hbg
  have hcs : k = 1 ∨ k = 2 ∨ k = 3 ∨ k = 4 ∨ (k = 0 ∨ k = 5) := by omega
  clear hbd
  rcases hcs with k1 | k1 | k1 | k1 | k1
  · subst k1
    have HR : Hid (nexP s p T R = ((true, p + 1, T, R, 0, 0) : Rs)) := Lib.hid (by unfold nexP; rw [HBG.out, ← HK.out]; rfl)
    go_enter Try.func68, Try.ntmps68
    go_wp2_with fail
    go_quiet ((go_at_call 97; exact quiet_w (classOf_any _ _)))
    rw [← HK.out]
    have H1 := Aside0.mk (H.out.drewN nq)
    have HB1 := Aside0.mk (pw_below_drewN HB.out nq)
    have HX1 := Aside0.mk (blk_drewN HBX.out nq)
    clear H HB HBX c0 c1
    generalize (w.alloc (.cells #[.pointer (some ⟨g, 0, none⟩)] 89 (0, 0))).drewN nq = w1 at H1 HB1 HX1 ⊢
    as_aux_lemma =>
    have cx : w1.cell? ⟨w.heap.size, 0, none⟩ = some (.pointer (some ⟨g, 0, none⟩)) := (blk_cell HX1.out 0).trans rfl
    obtain ⟨c0, c1, _⟩ := H1.out.cells
    have HN := Aside0.mk (blank_any (by omega) ⟨_, _, H1.out⟩ : Calls Try.prog 98 _ _ _)
    go_wp2_with fail
    go_ret
    exact ⟨_, rfl, HB1.out, 98, _, _, rfl, enters_ Try.func98 (by kernel_rfl) rfl, by rw [HR.out]; exact HN.out⟩
  · subst k1
    have HR : Hid (nexP s p T R = wordP s p 1 gN T R) := Lib.hid (by unfold nexP; rw [HBG.out, ← HK.out]; rfl)
    go_enter Try.func68, Try.ntmps68
    go_wp2_with fail
    go_quiet ((go_at_call 97; exact quiet_w (classOf_any _ _)))
    rw [← HK.out]
    have H1 := Aside0.mk (H.out.drewN nq)
    have HB1 := Aside0.mk (pw_below_drewN HB.out nq)
    have HX1 := Aside0.mk (blk_drewN HBX.out nq)
    clear H HB HBX c0 c1
    generalize (w.alloc (.cells #[.pointer (some ⟨g, 0, none⟩)] 89 (0, 0))).drewN nq = w1 at H1 HB1 HX1 ⊢
    as_aux_lemma =>
    have cx : w1.cell? ⟨w.heap.size, 0, none⟩ = some (.pointer (some ⟨g, 0, none⟩)) := (blk_cell HX1.out 0).trans rfl
    obtain ⟨c0, c1, _⟩ := H1.out.cells
    have HN := Aside0.mk (next1_any hs (by omega) hT ⟨_, _, H1.out⟩ cx : Calls Try.prog 99 _ _ _)
    go_wp2_with fail
    go_ret
    exact ⟨_, rfl, HB1.out, 99, _, _, rfl, enters_ Try.func99 (by kernel_rfl) rfl, by rw [HR.out]; exact HN.out⟩
  · subst k1
    have HR : Hid (nexP s p T R = wordP s p 2 gV T R) := Lib.hid (by unfold nexP; rw [HBG.out, ← HK.out]; rfl)
    go_enter Try.func68, Try.ntmps68
    go_wp2_with fail
    go_quiet ((go_at_call 97; exact quiet_w (classOf_any _ _)))
    rw [← HK.out]
    have H1 := Aside0.mk (H.out.drewN nq)
    have HB1 := Aside0.mk (pw_below_drewN HB.out nq)
    have HX1 := Aside0.mk (blk_drewN HBX.out nq)
    clear H HB HBX c0 c1
    generalize (w.alloc (.cells #[.pointer (some ⟨g, 0, none⟩)] 89 (0, 0))).drewN nq = w1 at H1 HB1 HX1 ⊢
    as_aux_lemma =>
    have cx : w1.cell? ⟨w.heap.size, 0, none⟩ = some (.pointer (some ⟨g, 0, none⟩)) := (blk_cell HX1.out 0).trans rfl
    obtain ⟨c0, c1, _⟩ := H1.out.cells
    have HN := Aside0.mk (next2_any hs (by omega) hT ⟨_, _, H1.out⟩ cx : Calls Try.prog 102 _ _ _)
    go_wp2_with fail
    go_ret
    exact ⟨_, rfl, HB1.out, 102, _, _, rfl, enters_ Try.func102 (by kernel_rfl) rfl, by rw [HR.out]; exact HN.out⟩
  · subst k1
    have HR : Hid (nexP s p T R = numP s p T R) := Lib.hid (by unfold nexP; rw [HBG.out, ← HK.out]; rfl)
    go_enter Try.func68, Try.ntmps68
    go_wp2_with fail
    go_quiet ((go_at_call 97; exact quiet_w (classOf_any _ _)))
    rw [← HK.out]
    have H1 := Aside0.mk (H.out.drewN nq)
    have HB1 := Aside0.mk (pw_below_drewN HB.out nq)
    have HX1 := Aside0.mk (blk_drewN HBX.out nq)
    clear H HB HBX c0 c1
    generalize (w.alloc (.cells #[.pointer (some ⟨g, 0, none⟩)] 89 (0, 0))).drewN nq = w1 at H1 HB1 HX1 ⊢
    as_aux_lemma =>
    have cx : w1.cell? ⟨w.heap.size, 0, none⟩ = some (.pointer (some ⟨g, 0, none⟩)) := (blk_cell HX1.out 0).trans rfl
    obtain ⟨c0, c1, _⟩ := H1.out.cells
    have HN := Aside0.mk (number_any hs (by omega) hT ⟨_, _, H1.out⟩ : Calls Try.prog 104 _ _ _)
    go_wp2_with fail
    go_ret
    exact ⟨_, rfl, HB1.out, 104, _, _, rfl, enters_ Try.func104 (by kernel_rfl) rfl, by rw [HR.out]; exact HN.out⟩
  · have n1 : (k == 1) = false := by rcases k1 with rfl | rfl <;> rfl
    have n2 : (k == 2) = false := by rcases k1 with rfl | rfl <;> rfl
    have n3 : (k == 3) = false := by rcases k1 with rfl | rfl <;> rfl
    have n4 : (k == 4) = false := by rcases k1 with rfl | rfl <;> rfl
    have HX : Hid (nexP s p T R = if bt s p = 34 then quoP s p T R else if bt s p = 35 then remP s p T R else marP s p T R) := Lib.hid (by
      unfold nexP
      rw [if_neg (by rw [HBG.out, ← HK.out]; omega), if_neg (by rw [HBG.out, ← HK.out]; omega), if_neg (by rw [HBG.out, ← HK.out]; omega), if_neg (by rw [HBG.out, ← HK.out]; omega)])
    clear k1
    go_enter Try.func68, Try.ntmps68
    go_wp2_with fail
    go_quiet ((go_at_call 97; exact quiet_w (classOf_any _ _)))
    rw [← HK.out]
    have H1 := Aside0.mk (H.out.drewN nq)
    have HB1 := Aside0.mk (pw_below_drewN HB.out nq)
    have HX1 := Aside0.mk (blk_drewN HBX.out nq)
    clear H HB HBX c0 c1
    generalize (w.alloc (.cells #[.pointer (some ⟨g, 0, none⟩)] 89 (0, 0))).drewN nq = w1 at H1 HB1 HX1 ⊢
    as_aux_lemma =>
    have cx : w1.cell? ⟨w.heap.size, 0, none⟩ = some (.pointer (some ⟨g, 0, none⟩)) := (blk_cell HX1.out 0).trans rfl
    obtain ⟨c0, c1, _⟩ := H1.out.cells
    go_wp2_with fail
    go_quiet (fail)
    have H2 := Aside0.mk (H1.out.drewN nq)
    have HB2 := Aside0.mk (pw_below_drewN HB1.out nq)
    have HX2 := Aside0.mk (blk_drewN HX1.out nq)
    clear H1 HB1 HX1 c0 c1 cx n1 n2 n3 n4
    generalize w1.drewN nq = w2 at H2 HB2 HX2 ⊢
    as_aux_lemma =>
    have cx : w2.cell? ⟨w.heap.size, 0, none⟩ = some (.pointer (some ⟨g, 0, none⟩)) := (blk_cell HX2.out 0).trans rfl
    rcases h34 : (((s[p]'hp).toNat : Int) == 34) with _ | _
    · have e34 : ¬ bt s p = 34 := fun h => by rw [HBG.out] at h; rw [h] at h34; simp at h34
      rcases h35 : (((s[p]'hp).toNat : Int) == 35) with _ | _
      · have e35 : ¬ bt s p = 35 := fun h => by rw [HBG.out] at h; rw [h] at h35; simp at h35
        have HR : Hid (nexP s p T R = marP s p T R) := Lib.hid (by rw [HX.out, if_neg e34, if_neg e35])
        have HN := Aside0.mk (mark_any hs hp hT ⟨_, _, H2.out⟩ : Calls Try.prog 107 _ _ _)
        clear e34 e35
        go_wp2_with fail
        go_ret
        exact ⟨_, rfl, HB2.out, 107, _, _, rfl, enters_ Try.func107 (by kernel_rfl) rfl, by rw [HR.out]; exact HN.out⟩
      · have HR : Hid (nexP s p T R = remP s p T R) := Lib.hid (by rw [HX.out, if_neg e34, if_pos (by rw [HBG.out]; exact beq_iff_eq.1 h35)])
        have HN := Aside0.mk (remark_any hs hp hRl ⟨_, _, H2.out⟩ : Calls Try.prog 106 _ _ _)
        clear e34
        go_wp2_with fail
        go_ret
        exact ⟨_, rfl, HB2.out, 106, _, _, rfl, enters_ Try.func106 (by kernel_rfl) rfl, by rw [HR.out]; exact HN.out⟩
    · have HR : Hid (nexP s p T R = quoP s p T R) := Lib.hid (by rw [HX.out, if_pos (by rw [HBG.out]; exact beq_iff_eq.1 h34)])
      have HN := Aside0.mk (quote_any hs hp hT ⟨_, _, H2.out⟩ : Calls Try.prog 105 _ _ _)
      go_wp2_with fail
      go_ret
      exact ⟨_, rfl, HB2.out, 105, _, _, rfl, enters_ Try.func105 (by kernel_rfl) rfl, by rw [HR.out]; exact HN.out⟩
end Go.Proofs.Ytmjneidcdaapdaa.P
