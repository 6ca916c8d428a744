/- The lexer's scanner: the walks of remarks and quotes. -/
import Derived.Test.YtmjneidcdaapdaaLex3
namespace Go.Proofs.Ytmjneidcdaapdaa.P
open Go.RowKit Go.Proofs.YtmjneidcdaapdaaW.PrintWords Go.Proofs.YtmjneidcdaapdaaW.PrintLast Go.Proofs.YtmjneidcdaapdaaW.PrintMore
set_option linter.unusedVariables false
set_option linter.unusedSimpArgs false

theorem ext_ext (s : ByteArray) (a i : Nat) (h : a + i ≤ s.size) : (s.extract a s.size).extract 0 i = s.extract a (a + i) := by
  rw [ByteArray.extract_extract]
  congr 1
  omega
def cutV (s : ByteArray) (p : Nat) : Value :=
  if runB s nB p < s.size then .tuple #[.string (s.extract p (runB s nB p)), .string ((s.extract p s.size).extract (runB s nB p - p + 1) (s.size - p)), .bool true] else .tuple #[.string (s.extract p (runB s nB p)), .string ⟨#[]⟩, .bool false]
theorem scut_any (s : ByteArray) (p : Nat) (w : World) (hs : s.size ≤ 65536) (hp : p ≤ s.size) :
    Calls Try.prog 136 #[.string (s.extract p s.size), .string ⟨#[10]⟩] w fun e w' => e = .returned (cutV s p) ∧ ∃ n, w' = w.drewN n := by
  have hi := idxAny s nB [10] nB_ok hp
  rw [Lib.indexAny_one] at hi
  obtain ⟨a, b, c, d⟩ := runB_spec s nB hp
  obtain ⟨q, hq⟩ : ∃ q, q = runB s nB p := ⟨_, rfl⟩
  rw [← hq] at hi a b
  have hts : (s.extract p s.size).size = s.size - p := by simp
  have he := ext_ext s p (q - p) (by omega)
  obtain ⟨t, ht⟩ : ∃ t, t = s.extract p s.size := ⟨_, rfl⟩
  rw [← ht] at hi hts he ⊢
  have HI := Lib.hid hi
  have HV : Hid (cutV s p = if q < s.size then .tuple #[.string (s.extract p q), .string (t.extract (q - p + 1) (s.size - p)), .bool true] else .tuple #[.string (s.extract p q), .string ⟨#[]⟩, .bool false]) := Lib.hid (by unfold cutV; rw [← hq, ← ht])
  have HT := Lib.hid ht
  have HE := Lib.hid he
  have HS := Lib.hid hts
  clear c d ht hi he hq
  by_cases hlt : q < s.size
  · have i1 : ((q - p : Nat) : Int) ≤ (t.size : Int) := by omega
    have i2 : ((q - p : Nat) : Int) + 1 ≤ (t.size : Int) := by omega
    have i3 : (0 : Int) ≤ ((q - p : Nat) : Int) := by omega
    have eq1 : p + (q - p) = q := by omega
    have EQ := Lib.hid eq1
    have hw : IntKind.i64.wrap (((q - p : Nat) : Int) + 1) = ((q - p : Nat) : Int) + 1 := IntWalk.i64_in _ (by omega)
    obtain ⟨m, hm⟩ : ∃ m, m = q - p := ⟨_, rfl⟩
    rw [← hm] at i1 i2 i3 hw
    have HM := Lib.hid hm
    clear hts eq1 hm
    go_enter Try.func136, Try.ntmps136
    go_wp2_with fail
    refine (Try.stringslite_Index_one _ _ _).mono ?_
    rintro e w' ⟨rfl, hww⟩
    rw [hww, HI.out, if_pos hlt, ← HM.out]
    clear hww
    go_wp2_with fail
    go_quiet (fail)
    go_wp2_with fail
    go_ret3
    rw [HV.out, if_pos hlt]
    refine ⟨?_, _, rfl⟩
    rw [HM.out, HE.out, EQ.out, HS.out]
    rfl
  · have eq1 : s.extract p q = t := by rw [HT.out]; congr 1; omega
    have EQ := Lib.hid eq1
    clear eq1 hts
    go_enter Try.func136, Try.ntmps136
    go_wp2_with fail
    refine (Try.stringslite_Index_one _ _ _).mono ?_
    rintro e w' ⟨rfl, hww⟩
    rw [hww, HI.out, if_neg hlt]
    clear hww
    go_wp2_with fail
    go_ret3
    rw [HV.out, if_neg hlt, EQ.out]
    exact ⟨rfl, 0, rfl⟩
theorem cut_any (s : ByteArray) (p : Nat) (w : World) (hs : s.size ≤ 65536) (hp : p ≤ s.size) :
    Calls Try.prog 129 #[.string (s.extract p s.size), .string ⟨#[10]⟩] w fun e w' => e = .returned (cutV s p) ∧ ∃ n, w' = w.drewN n := by
  have hv : ∃ a b c, cutV s p = .tuple #[a, b, c] := by unfold cutV; split <;> exact ⟨_, _, _, rfl⟩
  obtain ⟨a, b, c, hv⟩ := hv
  have HV := Lib.hid hv
  clear hv
  go_enter Try.func129, Try.ntmps129
  go_wp2_with fail
  refine (scut_any s p _ hs hp).mono ?_
  rintro e w' ⟨rfl, n, rfl⟩
  rw [HV.out]
  go_wp2_with fail
  go_ret3
  rw [HV.out]
  exact ⟨rfl, n, rfl⟩
theorem quiet_e {P : Program} {f : FuncId} {args : Array Value} {w : World} {n : Nat} {v : Value} (h : Calls P f args (w.drewN n) fun e w' => e = .returned v ∧ ∃ m, w' = (w.drewN n).drewN m) :
    Calls P f args (w.drewN n) fun e w'' => e = .returned v ∧ ∃ m, w'' = w.drewN m :=
  h.mono fun _ _ ⟨he, ⟨m, hm⟩⟩ => ⟨he, n + m, by rw [hm, World.drewN_drewN]⟩
set_option maxHeartbeats 1000000 in
set_option maxRecDepth 100000 in
theorem remark_any {w0 w : World} {g : Nat} {s : ByteArray} {p : Nat} {T : List Tk} {R : List ByteArray} (hs : s.size ≤ 65536) (hp : p < s.size) (hR : R.length ≤ 65536) (h : Sc w0 w g s p T R 0 0) :
    Calls Try.prog 106 #[.pointer (some ⟨g, 0, none⟩)] w (NP w0 g s (remP s p T R)) := by
  obtain ⟨tv, rv, h⟩ := h
  obtain ⟨Ar, cr, er⟩ := Kd.R_slice h.rem
  subst er
  obtain ⟨c0, c1, c2, c3, c4, c5, fz⟩ := h.cells
  have H := Aside0.mk h
  obtain ⟨l1, l2, -, -⟩ := runB_spec s nB (p := p + 1) (by omega)
  obtain ⟨b, c, hv⟩ : ∃ b c, cutV s (p + 1) = .tuple #[.string (s.extract (p + 1) (runB s nB (p + 1))), b, c] := by unfold cutV; split <;> exact ⟨_, _, rfl⟩
  have HR : Hid (remP s p T R = (true, runB s nB (p + 1), T, R ++ [s.extract (p + 1) (runB s nB (p + 1))], 0, 0)) := Lib.hid rfl
  obtain ⟨q, hq⟩ : ∃ q, q = runB s nB (p + 1) := ⟨_, rfl⟩
  rw [← hq] at l1 l2 hv HR
  have HV := Lib.hid hv
  have i1 : (0 : Int) ≤ (p : Int) + 1 := by omega
  have i2 : (p : Int) + 1 ≤ (s.size : Int) := by omega
  have hw : IntKind.i64.wrap ((p : Int) + 1) = (p : Int) + 1 := IntWalk.i64_in _ (by omega)
  have hn : ((p : Int) + 1).toNat = p + 1 := by omega
  obtain ⟨ln, hl⟩ : ∃ ln, ln = s.extract (p + 1) q := ⟨_, rfl⟩
  have hls : ln.size = q - (p + 1) := by rw [hl]; simp; omega
  rw [← hl] at HV HR
  have HL := Lib.hid hls
  have hcut : ∀ n, Calls Try.prog 129 #[.string (s.extract (p + 1) s.size), .string ⟨#[10]⟩] (w.drewN n) fun e w' => e = .returned (.tuple #[.string ln, b, c]) ∧ ∃ m, w' = (w.drewN n).drewN m := fun n => by
    have := cut_any s (p + 1) (w.drewN n) hs (by omega)
    rwa [HV.out] at this
  have HCUT := Aside0.mk hcut
  clear fz h c2 c3 c4 c5 hq hv hl hls hcut
  go_enter Try.func106, Try.ntmps106
  go_wp2_with fail
  go_quiet ((go_at_call 129; exact quiet_e (HCUT.out _)))
  have H1 := Aside0.mk (H.out.drewN nq)
  clear H c0 c1 HCUT HV hw hn i1 i2
  generalize w.drewN nq = w1 at H1 ⊢
  as_aux_lemma =>
  obtain ⟨c0, c1, c2, c3, c4, c5, fz⟩ := H1.out.cells
  clear fz c2 c4 c5 c0
  go_upto_region 3 with (at_builtin; refine Kd.R_append Kd.string (w0 := w0) w0.heap.size rfl (.tmp 25) (.tmp 27) 35 9 (.string ⟨#[]⟩) 16 rfl Try.underlying35 infoS rfl (by decide) (by omega) (.slice Ar R.length cr) R ln [.string ln] (fun _ => True) (fun _ => False) rfl rfl rfl (fun _ h => h.elim) (fun _ _ => trivial) H1.out.rem H1.out.below H1.out.below.size (by omega) ?_; intro v1 w3 hR hB hg hat; have el : (R ++ [ln]).length = R.length + 1 := (by simp); obtain ⟨Ao, co, eo⟩ := Kd.R_slice hR; rw [el] at eo; subst eo; clear el; have HP := Aside0.mk (H1.out.putR hR hg); have hbk := blk_grown H1.out.blk hg (Kd.R_ne H1.out.rem H1.out.blk (by decide)); have g3 := (blk_cell hbk 3).trans rfl; have k3 := blk_frozen hbk 3; clear hR hB hg hat hbk)
  have hsum : (p : Int) + (1 + ((ln.size : Nat) : Int)) = (q : Int) := by have := HL.out; omega
  have HF := Aside0.mk (HP.out.at_ (q : Int))
  clear H1 g3 k3 c1 c3
  generalize w3.setCell ⟨g, 3, none⟩ (.slice Ao (R.length + 1) co) = w4 at HP HF ⊢
  as_aux_lemma =>
  obtain ⟨d0, d1, d2, d3, d4, d5, fz⟩ := HP.out.cells
  have f1 := fz 1
  clear fz HP
  have h31 : (ln.size : Int) ≤ 65536 := by have := HL.out; omega
  go_wp2_with fail
  go_ret
  rw [HR.out]
  exact ⟨rfl, _, _, HF.out⟩
set_option maxHeartbeats 1000000 in
set_option maxRecDepth 100000 in
theorem quote_any {w0 w : World} {g : Nat} {s : ByteArray} {p : Nat} {T : List Tk} {R : List ByteArray} (hs : s.size ≤ 65536) (hp : p < s.size) (hT : T.length ≤ 65536) (h : Sc w0 w g s p T R 0 0) :
    Calls Try.prog 105 #[.pointer (some ⟨g, 0, none⟩)] w (NP w0 g s (quoP s p T R)) := by
  obtain ⟨tv, rv, h⟩ := h
  obtain ⟨At, ct, et⟩ := Kd.R_slice h.tok
  subst et
  obtain ⟨c0, c1, c2, c3, c4, c5, fz⟩ := h.cells
  have H := Aside0.mk h
  obtain ⟨l1, l2, -, -⟩ := runB_spec s qB (p := p + 1) (by omega)
  have hi := idxAny s qB qN.data.toList qB_ok (p := p + 1) (by omega)
  obtain ⟨q, hq⟩ : ∃ q, q = runB s qB (p + 1) := ⟨_, rfl⟩
  rw [← hq] at l1 l2 hi
  have HI := Lib.hid hi
  have HQ := Lib.hid hq
  have i1 : (0 : Int) ≤ (p : Int) + 1 := by omega
  have i2 : (p : Int) + 1 ≤ (s.size : Int) := by omega
  have hw : IntKind.i64.wrap ((p : Int) + 1) = (p : Int) + 1 := IntWalk.i64_in _ (by omega)
  have hn : ((p : Int) + 1).toNat = p + 1 := by omega
  clear fz h c2 c3 c4 c5 hq hi
  go_enter Try.func105, Try.ntmps105
  go_wp2_with fail
  refine start_ (n := 12) (S := fun w' => w'.cell? ⟨g, 0, none⟩ = some (.string s) ∧ w'.cell? ⟨g, 1, none⟩ = some (.int .i64 p)) (ds := []) #[false, false, false, false, false, false, false, false, false, false, false, false] (by kernel_rfl) rfl rfl (⟨c0, c1⟩) (fun hHeld => ?_)
  refine pure_ (i := 0) (N := some 4) (v := ?_) (a' := ?_) #[true, false, false, false, false, false, false, false, false, false, false, false] rfl rfl (by kernel_rfl) (fun _ _ _ h => h) (Or.inl ⟨by rfl, ?_⟩) ?_ ?_
  rotate_left
  · intro w'
    go_simp
    with_reducible rfl
  rotate_left
  · simp only [Act.put, List.setIfInBounds_toArray, List.set_cons_zero, List.set_cons_succ, i64_w, i32_w]
    rfl
  refine pure_ (i := 1) (N := some 5) (v := ?_) (a' := ?_) #[true, true, false, false, false, false, false, false, false, false, false, false] rfl rfl (by kernel_rfl) (fun _ _ _ h => h) (Or.inl ⟨by rfl, ?_⟩) ?_ ?_
  rotate_left
  · intro w'
    go_simp
    with_reducible rfl
  rotate_left
  · simp only [Act.put, List.setIfInBounds_toArray, List.set_cons_zero, List.set_cons_succ, i64_w, i32_w]
    rfl
  refine pure_ (i := 2) (N := some 6) (v := ?_) (a' := ?_) #[true, true, true, false, false, false, false, false, false, false, false, false] rfl rfl (by kernel_rfl) (fun _ _ _ h => h) (Or.inl ⟨by rfl, ?_⟩) ?_ ?_
  rotate_left
  · intro w'
    go_simp
    with_reducible rfl
  rotate_left
  · simp only [Act.put, List.setIfInBounds_toArray, List.set_cons_zero, List.set_cons_succ, i64_w, i32_w]
    rfl
  refine pure_ (i := 4) (N := some 8) (v := ?_) (a' := ?_) #[true, true, true, false, true, false, false, false, false, false, false, false] rfl rfl (by kernel_rfl) (fun _ _ _ h => h) (Or.inl ⟨by rfl, ?_⟩) ?_ ?_
  rotate_left
  · intro w'
    go_simp
    with_reducible rfl
  rotate_left
  · simp only [Act.put, List.setIfInBounds_toArray, List.set_cons_zero, List.set_cons_succ, i64_w, i32_w]
    rfl
  refine pure_ (i := 5) (N := some 9) (v := ?_) (a' := ?_) #[true, true, true, false, true, true, false, false, false, false, false, false] rfl rfl (by kernel_rfl) (fun _ _ _ h => h) (Or.inl ⟨by rfl, ?_⟩) ?_ ?_
  rotate_left
  · intro w'
    go_simp
    with_reducible rfl
  rotate_left
  · simp only [Act.put, List.setIfInBounds_toArray, List.set_cons_zero, List.set_cons_succ, i64_w, i32_w]
    rfl
  refine pure_ (i := 6) (N := some 10) (v := ?_) (a' := ?_) #[true, true, true, false, true, true, true, false, false, false, false, false] rfl rfl (by kernel_rfl) (fun _ _ _ h => h) (Or.inl ⟨by rfl, ?_⟩) ?_ ?_
  rotate_left
  · intro w'
    go_simp
    with_reducible rfl
  rotate_left
  · simp only [Act.put, List.setIfInBounds_toArray, List.set_cons_zero, List.set_cons_succ, i64_w, i32_w]
    rfl
  refine take_ (i := 3) (N := some 7) (v := ?_) (a' := ?_) #[true, true, true, true, true, true, true, false, false, false, false, false] rfl rfl (by kernel_rfl) (fun _ _ _ h => h) (Or.inl ⟨by rfl, ?_⟩) hHeld ?_ ?_
  rotate_left
  · rintro w' ⟨s0, s1⟩
    go_simp
    with_reducible rfl
  rotate_left
  · simp only [Act.put, List.setIfInBounds_toArray, List.set_cons_zero, List.set_cons_succ, i64_w, i32_w]
    rfl
  refine take_ (i := 7) (N := some 11) (v := ?_) (a' := ?_) #[true, true, true, true, true, true, true, true, false, false, false, false] rfl rfl (by kernel_rfl) (fun _ _ _ h => h) (Or.inl ⟨by rfl, ?_⟩) hHeld ?_ ?_
  rotate_left
  · rintro w' ⟨s0, s1⟩
    go_simp
    with_reducible rfl
  rotate_left
  · simp only [Act.put, List.setIfInBounds_toArray, List.set_cons_zero, List.set_cons_succ, i64_w, i32_w]
    rfl
  refine pure_ (i := 8) (N := some 12) (v := ?_) (a' := ?_) #[true, true, true, true, true, true, true, true, true, false, false, false] rfl rfl (by kernel_rfl) (fun _ _ _ h => h) (Or.inl ⟨by rfl, ?_⟩) ?_ ?_
  rotate_left
  · intro w'
    go_simp
    with_reducible rfl
  rotate_left
  · simp only [Act.put, List.setIfInBounds_toArray, List.set_cons_zero, List.set_cons_succ, i64_w, i32_w]
    rfl
  refine one_ (i := 9) (N := some 13) #[true, true, true, true, true, true, true, true, true, true, false, false] rfl rfl (by kernel_rfl) (by decide) (fun K hK => ?_)
  refine value_ (w1 := ?_) (v := ?_) (by rfl) rfl ?_ ?_
  rotate_left 2
  · go_simp
    constructor
    · rfl
    · rfl
  refine hK.out _ _ (⟨c0, c1⟩) (fun hHeld => ?_)
  clear hK K
  refine norm_ (a' := ?_) ?_ ?_
  rotate_left
  · show Act.put _ (some 13) _ = _
    simp only [Act.put, List.setIfInBounds_toArray, List.set_cons_zero, List.set_cons_succ, i64_w, i32_w]
    rfl
  refine one_ (i := 10) (N := some 14) #[true, true, true, true, true, true, true, true, true, true, true, false] rfl rfl (by kernel_rfl) (by decide) (fun K hK => ?_)
  refine call_ 94 #[.string (s.extract (p + 1) s.size), .string qN] (by rfl) rfl ?_ ?_
  · go_simp
    rfl
  refine (indexAny_q (s.extract (p + 1) s.size) _ (by simp; omega)).mono ?_
  rintro e w9 ⟨rfl, hb⟩
  rw [HI.out]
  refine ⟨_, rfl, ?_⟩
  have H9 := Aside0.mk (H.out.drew.on hb)
  refine hK.out _ _ (⟨H9.out.cells.1, H9.out.cells.2.1⟩) (fun hHeld => ?_)
  clear hK K
  refine norm_ (a' := ?_) ?_ ?_
  rotate_left
  · show Act.put _ (some 14) _ = _
    simp only [Act.put, List.setIfInBounds_toArray, List.set_cons_zero, List.set_cons_succ, i64_w, i32_w]
    rfl
  clear hb
  refine pure_ (i := 11) (N := some 3) (v := ?_) (a' := ?_) #[true, true, true, true, true, true, true, true, true, true, true, true] rfl rfl (by kernel_rfl) (fun _ _ _ h => h) (Or.inl ⟨by rfl, ?_⟩) ?_ ?_
  rotate_left
  · intro w'
    go_simp
    with_reducible rfl
  rotate_left
  · simp only [Act.put, List.setIfInBounds_toArray, List.set_cons_zero, List.set_cons_succ, i64_w, i32_w]
    rfl
  refine done_ (by kernel_rfl) ?_
  clear H c0 c1
  as_aux_lemma =>
  obtain ⟨c0, c1, _⟩ := H9.out.cells
  by_cases hlt : q < s.size
  · rw [if_pos hlt]
    obtain ⟨m, hm⟩ : ∃ m, m = q - (p + 1) := ⟨_, rfl⟩
    rw [← hm]
    have hw2 : IntKind.i64.wrap ((p : Int) + 1 + (m : Int)) = (q : Int) := (IntWalk.i64_in _ (by omega)).trans (by omega)
    have i3 : (0 : Int) ≤ (q : Int) := by omega
    have i4 : (q : Int) < (s.size : Int) := by omega
    have i5 : ¬ (m : Int) < 0 := by omega
    have i6 : decide ((m : Int) < 0) = false := decide_eq_false i5
    have HM := Lib.hid hm
    have hbg := bt_get s q hlt
    rcases hv : (((s[q]'hlt).toNat : Int) == 10) with _ | _
    · have HR : Hid (quoP s p T R = ((true, q + 1, T ++ [⟨5, s.extract (p + 1) q, p⟩], R, 0, 0) : Rs)) := Lib.hid (by
        unfold quoP
        rw [← HQ.out, if_pos ⟨hlt, by rw [hbg]; simpa using hv⟩])
      clear hm hbg
      go_wp2_with fail
      go_quiet (fail)
      have H1 := Aside0.mk (H9.out.drewN nq)
      clear c0 c1 H9
      generalize w9.drewN nq = w10 at H1 ⊢
      as_aux_lemma =>
      obtain ⟨c0, c1, c2, _⟩ := H1.out.cells
      have i7 : (p : Int) + 1 ≤ (q : Int) := by omega
      have i8 : (q : Int) ≤ (s.size : Int) := by omega
      go_wp2_with fail
      refine start_ (n := 32) (S := fun w' => w'.cell? ⟨g, 0, none⟩ = some (.string s) ∧ w'.cell? ⟨g, 1, none⟩ = some (.int .i64 p) ∧ w'.cell? ⟨g, 2, none⟩ = some (.slice At T.length ct)) (ds := [31]) #[false, false, false, false, false, false, false, false, false, false, false, false, false, false, false, false, false, false, false, false, false, false, false, false, false, false, false, false, false, false, false, false] (by kernel_rfl) rfl rfl (⟨c0, c1, c2⟩) (fun hHeld => ?_)
      refine pure_ (i := 0) (N := some 38) (v := ?_) (a' := ?_) #[true, false, false, false, false, false, false, false, false, false, false, false, false, false, false, false, false, false, false, false, false, false, false, false, false, false, false, false, false, false, false, false] rfl rfl (by kernel_rfl) (fun _ _ _ h => h) (Or.inl ⟨by rfl, ?_⟩) ?_ ?_
      rotate_left
      · intro w'
        go_simp
        with_reducible rfl
      rotate_left
      · simp only [Act.put, List.setIfInBounds_toArray, List.set_cons_zero, List.set_cons_succ, i64_w, i32_w]
        rfl
      refine pure_ (i := 1) (N := some 39) (v := ?_) (a' := ?_) #[true, true, false, false, false, false, false, false, false, false, false, false, false, false, false, false, false, false, false, false, false, false, false, false, false, false, false, false, false, false, false, false] rfl rfl (by kernel_rfl) (fun _ _ _ h => h) (Or.inl ⟨by rfl, ?_⟩) ?_ ?_
      rotate_left
      · intro w'
        go_simp
        with_reducible rfl
      rotate_left
      · simp only [Act.put, List.setIfInBounds_toArray, List.set_cons_zero, List.set_cons_succ, i64_w, i32_w]
        rfl
      refine pure_ (i := 2) (N := some 40) (v := ?_) (a' := ?_) #[true, true, true, false, false, false, false, false, false, false, false, false, false, false, false, false, false, false, false, false, false, false, false, false, false, false, false, false, false, false, false, false] rfl rfl (by kernel_rfl) (fun _ _ _ h => h) (Or.inl ⟨by rfl, ?_⟩) ?_ ?_
      rotate_left
      · intro w'
        go_simp
        with_reducible rfl
      rotate_left
      · simp only [Act.put, List.setIfInBounds_toArray, List.set_cons_zero, List.set_cons_succ, i64_w, i32_w]
        rfl
      refine pure_ (i := 3) (N := some 41) (v := ?_) (a' := ?_) #[true, true, true, true, false, false, false, false, false, false, false, false, false, false, false, false, false, false, false, false, false, false, false, false, false, false, false, false, false, false, false, false] rfl rfl (by kernel_rfl) (fun _ _ _ h => h) (Or.inl ⟨by rfl, ?_⟩) ?_ ?_
      rotate_left
      · intro w'
        go_simp
        with_reducible rfl
      rotate_left
      · simp only [Act.put, List.setIfInBounds_toArray, List.set_cons_zero, List.set_cons_succ, i64_w, i32_w]
        rfl
      refine pure_ (i := 5) (N := some 43) (v := ?_) (a' := ?_) #[true, true, true, true, false, true, false, false, false, false, false, false, false, false, false, false, false, false, false, false, false, false, false, false, false, false, false, false, false, false, false, false] rfl rfl (by kernel_rfl) (fun _ _ _ h => h) (Or.inl ⟨by rfl, ?_⟩) ?_ ?_
      rotate_left
      · intro w'
        go_simp
        with_reducible rfl
      rotate_left
      · simp only [Act.put, List.setIfInBounds_toArray, List.set_cons_zero, List.set_cons_succ, i64_w, i32_w]
        rfl
      refine pure_ (i := 6) (N := some 44) (v := ?_) (a' := ?_) #[true, true, true, true, false, true, true, false, false, false, false, false, false, false, false, false, false, false, false, false, false, false, false, false, false, false, false, false, false, false, false, false] rfl rfl (by kernel_rfl) (fun _ _ _ h => h) (Or.inl ⟨by rfl, ?_⟩) ?_ ?_
      rotate_left
      · intro w'
        go_simp
        with_reducible rfl
      rotate_left
      · simp only [Act.put, List.setIfInBounds_toArray, List.set_cons_zero, List.set_cons_succ, i64_w, i32_w]
        rfl
      refine pure_ (i := 7) (N := some 45) (v := ?_) (a' := ?_) #[true, true, true, true, false, true, true, true, false, false, false, false, false, false, false, false, false, false, false, false, false, false, false, false, false, false, false, false, false, false, false, false] rfl rfl (by kernel_rfl) (fun _ _ _ h => h) (Or.inl ⟨by rfl, ?_⟩) ?_ ?_
      rotate_left
      · intro w'
        go_simp
        with_reducible rfl
      rotate_left
      · simp only [Act.put, List.setIfInBounds_toArray, List.set_cons_zero, List.set_cons_succ, i64_w, i32_w]
        rfl
      refine pure_ (i := 9) (N := some 47) (v := ?_) (a' := ?_) #[true, true, true, true, false, true, true, true, false, true, false, false, false, false, false, false, false, false, false, false, false, false, false, false, false, false, false, false, false, false, false, false] rfl rfl (by kernel_rfl) (fun _ _ _ h => h) (Or.inl ⟨by rfl, ?_⟩) ?_ ?_
      rotate_left
      · intro w'
        go_simp
        with_reducible rfl
      rotate_left
      · simp only [Act.put, List.setIfInBounds_toArray, List.set_cons_zero, List.set_cons_succ, i64_w, i32_w]
        rfl
      refine pure_ (i := 10) (N := some 48) (v := ?_) (a' := ?_) #[true, true, true, true, false, true, true, true, false, true, true, false, false, false, false, false, false, false, false, false, false, false, false, false, false, false, false, false, false, false, false, false] rfl rfl (by kernel_rfl) (fun _ _ _ h => h) (Or.inl ⟨by rfl, ?_⟩) ?_ ?_
      rotate_left
      · intro w'
        go_simp
        with_reducible rfl
      rotate_left
      · simp only [Act.put, List.setIfInBounds_toArray, List.set_cons_zero, List.set_cons_succ, i64_w, i32_w]
        rfl
      refine pure_ (i := 11) (N := some 49) (v := ?_) (a' := ?_) #[true, true, true, true, false, true, true, true, false, true, true, true, false, false, false, false, false, false, false, false, false, false, false, false, false, false, false, false, false, false, false, false] rfl rfl (by kernel_rfl) (fun _ _ _ h => h) (Or.inl ⟨by rfl, ?_⟩) ?_ ?_
      rotate_left
      · intro w'
        go_simp
        with_reducible rfl
      rotate_left
      · simp only [Act.put, List.setIfInBounds_toArray, List.set_cons_zero, List.set_cons_succ, i64_w, i32_w]
        rfl
      refine pure_ (i := 14) (N := some 52) (v := ?_) (a' := ?_) #[true, true, true, true, false, true, true, true, false, true, true, true, false, false, true, false, false, false, false, false, false, false, false, false, false, false, false, false, false, false, false, false] rfl rfl (by kernel_rfl) (fun _ _ _ h => h) (Or.inl ⟨by rfl, ?_⟩) ?_ ?_
      rotate_left
      · intro w'
        go_simp
        with_reducible rfl
      rotate_left
      · simp only [Act.put, List.setIfInBounds_toArray, List.set_cons_zero, List.set_cons_succ, i64_w, i32_w]
        rfl
      refine pure_ (i := 15) (N := some 53) (v := ?_) (a' := ?_) #[true, true, true, true, false, true, true, true, false, true, true, true, false, false, true, true, false, false, false, false, false, false, false, false, false, false, false, false, false, false, false, false] rfl rfl (by kernel_rfl) (fun _ _ _ h => h) (Or.inl ⟨by rfl, ?_⟩) ?_ ?_
      rotate_left
      · intro w'
        go_simp
        with_reducible rfl
      rotate_left
      · simp only [Act.put, List.setIfInBounds_toArray, List.set_cons_zero, List.set_cons_succ, i64_w, i32_w]
        rfl
      refine pure_ (i := 16) (N := some 54) (v := ?_) (a' := ?_) #[true, true, true, true, false, true, true, true, false, true, true, true, false, false, true, true, true, false, false, false, false, false, false, false, false, false, false, false, false, false, false, false] rfl rfl (by kernel_rfl) (fun _ _ _ h => h) (Or.inl ⟨by rfl, ?_⟩) ?_ ?_
      rotate_left
      · intro w'
        go_simp
        with_reducible rfl
      rotate_left
      · simp only [Act.put, List.setIfInBounds_toArray, List.set_cons_zero, List.set_cons_succ, i64_w, i32_w]
        rfl
      refine pure_ (i := 19) (N := some 57) (v := ?_) (a' := ?_) #[true, true, true, true, false, true, true, true, false, true, true, true, false, false, true, true, true, false, false, true, false, false, false, false, false, false, false, false, false, false, false, false] rfl rfl (by kernel_rfl) (fun _ _ _ h => h) (Or.inl ⟨by rfl, ?_⟩) ?_ ?_
      rotate_left
      · intro w'
        go_simp
        with_reducible rfl
      rotate_left
      · simp only [Act.put, List.setIfInBounds_toArray, List.set_cons_zero, List.set_cons_succ, i64_w, i32_w]
        rfl
      refine pure_ (i := 22) (N := some 60) (v := ?_) (a' := ?_) #[true, true, true, true, false, true, true, true, false, true, true, true, false, false, true, true, true, false, false, true, false, false, true, false, false, false, false, false, false, false, false, false] rfl rfl (by kernel_rfl) (fun _ _ _ h => h) (Or.inl ⟨by rfl, ?_⟩) ?_ ?_
      rotate_left
      · intro w'
        go_simp
        with_reducible rfl
      rotate_left
      · simp only [Act.put, List.setIfInBounds_toArray, List.set_cons_zero, List.set_cons_succ, i64_w, i32_w]
        rfl
      refine pure_ (i := 23) (N := some 61) (v := ?_) (a' := ?_) #[true, true, true, true, false, true, true, true, false, true, true, true, false, false, true, true, true, false, false, true, false, false, true, true, false, false, false, false, false, false, false, false] rfl rfl (by kernel_rfl) (fun _ _ _ h => h) (Or.inl ⟨by rfl, ?_⟩) ?_ ?_
      rotate_left
      · intro w'
        go_simp
        with_reducible rfl
      rotate_left
      · simp only [Act.put, List.setIfInBounds_toArray, List.set_cons_zero, List.set_cons_succ, i64_w, i32_w]
        rfl
      refine pure_ (i := 24) (N := some 62) (v := ?_) (a' := ?_) #[true, true, true, true, false, true, true, true, false, true, true, true, false, false, true, true, true, false, false, true, false, false, true, true, true, false, false, false, false, false, false, false] rfl rfl (by kernel_rfl) (fun _ _ _ h => h) (Or.inl ⟨by rfl, ?_⟩) ?_ ?_
      rotate_left
      · intro w'
        go_simp
        with_reducible rfl
      rotate_left
      · simp only [Act.put, List.setIfInBounds_toArray, List.set_cons_zero, List.set_cons_succ, i64_w, i32_w]
        rfl
      refine take_ (i := 4) (N := some 42) (v := ?_) (a' := ?_) #[true, true, true, true, true, true, true, true, false, true, true, true, false, false, true, true, true, false, false, true, false, false, true, true, true, false, false, false, false, false, false, false] rfl rfl (by kernel_rfl) (fun _ _ _ h => h) (Or.inl ⟨by rfl, ?_⟩) hHeld ?_ ?_
      rotate_left
      · rintro w' ⟨s0, s1, s2⟩
        go_simp
        with_reducible rfl
      rotate_left
      · simp only [Act.put, List.setIfInBounds_toArray, List.set_cons_zero, List.set_cons_succ, i64_w, i32_w]
        rfl
      refine take_ (i := 8) (N := some 46) (v := ?_) (a' := ?_) #[true, true, true, true, true, true, true, true, true, true, true, true, false, false, true, true, true, false, false, true, false, false, true, true, true, false, false, false, false, false, false, false] rfl rfl (by kernel_rfl) (fun _ _ _ h => h) (Or.inl ⟨by rfl, ?_⟩) hHeld ?_ ?_
      rotate_left
      · rintro w' ⟨s0, s1, s2⟩
        go_simp
        with_reducible rfl
      rotate_left
      · simp only [Act.put, List.setIfInBounds_toArray, List.set_cons_zero, List.set_cons_succ, i64_w, i32_w]
        rfl
      refine take_ (i := 12) (N := some 50) (v := ?_) (a' := ?_) #[true, true, true, true, true, true, true, true, true, true, true, true, true, false, true, true, true, false, false, true, false, false, true, true, true, false, false, false, false, false, false, false] rfl rfl (by kernel_rfl) (fun _ _ _ h => h) (Or.inl ⟨by rfl, ?_⟩) hHeld ?_ ?_
      rotate_left
      · rintro w' ⟨s0, s1, s2⟩
        go_simp
        with_reducible rfl
      rotate_left
      · simp only [Act.put, List.setIfInBounds_toArray, List.set_cons_zero, List.set_cons_succ, i64_w, i32_w]
        rfl
      refine pure_ (i := 13) (N := some 51) (v := ?_) (a' := ?_) #[true, true, true, true, true, true, true, true, true, true, true, true, true, true, true, true, true, false, false, true, false, false, true, true, true, false, false, false, false, false, false, false] rfl rfl (by kernel_rfl) (fun _ _ _ h => h) (Or.inl ⟨by rfl, ?_⟩) ?_ ?_
      rotate_left
      · intro w'
        go_simp
        with_reducible rfl
      rotate_left
      · simp only [Act.put, List.setIfInBounds_toArray, List.set_cons_zero, List.set_cons_succ, i64_w, i32_w]
        rfl
      refine take_ (i := 17) (N := some 55) (v := ?_) (a' := ?_) #[true, true, true, true, true, true, true, true, true, true, true, true, true, true, true, true, true, true, false, true, false, false, true, true, true, false, false, false, false, false, false, false] rfl rfl (by kernel_rfl) (fun _ _ _ h => h) (Or.inl ⟨by rfl, ?_⟩) hHeld ?_ ?_
      rotate_left
      · rintro w' ⟨s0, s1, s2⟩
        go_simp
        with_reducible rfl
      rotate_left
      · simp only [Act.put, List.setIfInBounds_toArray, List.set_cons_zero, List.set_cons_succ, i64_w, i32_w]
        rfl
      refine pure_ (i := 18) (N := some 56) (v := ?_) (a' := ?_) #[true, true, true, true, true, true, true, true, true, true, true, true, true, true, true, true, true, true, true, true, false, false, true, true, true, false, false, false, false, false, false, false] rfl rfl (by kernel_rfl) (fun _ _ _ h => h) (Or.inl ⟨by rfl, ?_⟩) ?_ ?_
      rotate_left
      · intro w'
        go_simp
        with_reducible rfl
      rotate_left
      · simp only [Act.put, List.setIfInBounds_toArray, List.set_cons_zero, List.set_cons_succ, i64_w, i32_w]
        rfl
      refine pure_ (i := 20) (N := some 58) (v := ?_) (a' := ?_) #[true, true, true, true, true, true, true, true, true, true, true, true, true, true, true, true, true, true, true, true, true, false, true, true, true, false, false, false, false, false, false, false] rfl rfl (by kernel_rfl) (fun _ _ _ h => h) (Or.inl ⟨by rfl, ?_⟩) ?_ ?_
      rotate_left
      · intro w'
        go_simp
        with_reducible rfl
      rotate_left
      · simp only [Act.put, List.setIfInBounds_toArray, List.set_cons_zero, List.set_cons_succ, i64_w, i32_w]
        rfl
      refine take_ (i := 25) (N := some 63) (v := ?_) (a' := ?_) #[true, true, true, true, true, true, true, true, true, true, true, true, true, true, true, true, true, true, true, true, true, false, true, true, true, true, false, false, false, false, false, false] rfl rfl (by kernel_rfl) (fun _ _ _ h => h) (Or.inl ⟨by rfl, ?_⟩) hHeld ?_ ?_
      rotate_left
      · rintro w' ⟨s0, s1, s2⟩
        go_simp
        with_reducible rfl
      rotate_left
      · simp only [Act.put, List.setIfInBounds_toArray, List.set_cons_zero, List.set_cons_succ, i64_w, i32_w]
        rfl
      refine one_ (i := 21) (N := some 59) #[true, true, true, true, true, true, true, true, true, true, true, true, true, true, true, true, true, true, true, true, true, true, true, true, true, true, false, false, false, false, false, false] rfl rfl (by kernel_rfl) (by decide) (fun K hK => ?_)
      refine value_ (w1 := ?_) (v := ?_) (by rfl) rfl ?_ ?_
      rotate_left 2
      · go_simp
        constructor
        · rfl
        · rfl
      refine hK.out _ _ (⟨c0, c1, c2⟩) (fun hHeld => ?_)
      clear hK K
      refine norm_ (a' := ?_) ?_ ?_
      rotate_left
      · show Act.put _ (some 59) _ = _
        simp only [Act.put, List.setIfInBounds_toArray, List.set_cons_zero, List.set_cons_succ, i64_w, i32_w]
        rfl
      refine pure_ (i := 26) (N := some 64) (v := ?_) (a' := ?_) #[true, true, true, true, true, true, true, true, true, true, true, true, true, true, true, true, true, true, true, true, true, true, true, true, true, true, true, false, false, false, false, false] rfl rfl (by kernel_rfl) (fun _ _ _ h => h) (Or.inl ⟨by rfl, ?_⟩) ?_ ?_
      rotate_left
      · intro w'
        go_simp
        with_reducible rfl
      rotate_left
      · simp only [Act.put, List.setIfInBounds_toArray, List.set_cons_zero, List.set_cons_succ, i64_w, i32_w]
        rfl
      refine one_ (i := 27) (N := some 65) #[true, true, true, true, true, true, true, true, true, true, true, true, true, true, true, true, true, true, true, true, true, true, true, true, true, true, true, true, false, false, false, false] rfl rfl (by kernel_rfl) (by decide) (fun K hK => ?_)
      have HA := (H1.out.drew.alloc (.cells #[.int .i64 5, .string (s.extract (p + 1) q), .int .i64 p] 76 (0, 0))).cells
      refine value_ (w1 := ?_) (v := ?_) (by rfl) rfl ?_ ?_
      rotate_left 2
      · go_simp
        constructor
        · rfl
        · rfl
      refine hK.out _ _ (⟨HA.1, HA.2.1, HA.2.2.1⟩) (fun hHeld => ?_)
      clear hK K
      refine norm_ (a' := ?_) ?_ ?_
      rotate_left
      · show Act.put _ (some 65) _ = _
        simp only [Act.put, List.setIfInBounds_toArray, List.set_cons_zero, List.set_cons_succ, i64_w, i32_w]
        rfl
      refine one_ (i := 28) (N := some 66) #[true, true, true, true, true, true, true, true, true, true, true, true, true, true, true, true, true, true, true, true, true, true, true, true, true, true, true, true, true, false, false, false] rfl rfl (by kernel_rfl) (by decide) (fun K hK => ?_)
      refine Kd.R_append_step k76 (w0 := w0) (W := w10.drew) w0.heap.size (by simp [Region.wanted]) (.tmp 42) (.tmp 65) 30 76 (.agg #[.int .i64 0, .string ⟨#[]⟩, .int .i64 0]) 32 rfl Try.underlying30 infoTk rfl (by decide) (by omega) (.slice At T.length ct) T ⟨5, s.extract (p + 1) q, p⟩ [.int .i64 5, .string (s.extract (p + 1) q), .int .i64 p] (fun _ => True) (fun _ => False) (by rfl) (by rfl) (k76_mkM _ _ _ ⟨5, s.extract (p + 1) q, p⟩) (fun _ h => h.elim) (fun _ _ => trivial) H1.out.drew.tok H1.out.drew.below H1.out.drew.below.size (by omega) ?_
      intro vn w6 hR hB hg hat
      have el : (T ++ [(⟨5, s.extract (p + 1) q, p⟩ : Tk)]).length = T.length + 1 := by simp
      obtain ⟨Ao, co, eo⟩ := Kd.R_slice hR
      rw [el] at eo
      subst eo
      clear el
      have HP := Aside0.mk (H1.out.drew.putT hR hg)
      have hbk := blk_grown H1.out.drew.blk hg (Kd.R_ne H1.out.drew.tok H1.out.drew.blk (by decide))
      have d0 := (blk_cell hbk 0).trans rfl
      have d1 := (blk_cell hbk 1).trans rfl
      have d2 := (blk_cell hbk 2).trans rfl
      have f2 := blk_frozen hbk 2
      refine hK.out _ _ (⟨d0, d1, d2⟩) (fun hHeld => ?_)
      clear hK K
      refine norm_ (a' := ?_) ?_ ?_
      rotate_left
      · show Act.put _ (some 66) _ = _
        simp only [Act.put, List.setIfInBounds_toArray, List.set_cons_zero, List.set_cons_succ, i64_w, i32_w]
        rfl
      refine pure_ (i := 29) (N := some 67) (v := ?_) (a' := ?_) #[true, true, true, true, true, true, true, true, true, true, true, true, true, true, true, true, true, true, true, true, true, true, true, true, true, true, true, true, true, true, false, false] rfl rfl (by kernel_rfl) (fun _ _ _ h => h) (Or.inl ⟨by rfl, ?_⟩) ?_ ?_
      rotate_left
      · intro w'
        go_simp
        with_reducible rfl
      rotate_left
      · simp only [Act.put, List.setIfInBounds_toArray, List.set_cons_zero, List.set_cons_succ, i64_w, i32_w]
        rfl
      refine pure_ (i := 30) (N := some 68) (v := ?_) (a' := ?_) #[true, true, true, true, true, true, true, true, true, true, true, true, true, true, true, true, true, true, true, true, true, true, true, true, true, true, true, true, true, true, true, false] rfl rfl (by kernel_rfl) (fun _ _ _ h => h) (Or.inl ⟨by rfl, ?_⟩) ?_ ?_
      rotate_left
      · intro w'
        go_simp
        with_reducible rfl
      rotate_left
      · simp only [Act.put, List.setIfInBounds_toArray, List.set_cons_zero, List.set_cons_succ, i64_w, i32_w]
        rfl
      refine last_ (i := 31) (N := none) #[true, true, true, true, true, true, true, true, true, true, true, true, true, true, true, true, true, true, true, true, true, true, true, true, true, true, true, true, true, true, true, true] rfl rfl (by kernel_rfl) (by decide) (fun K hK => ?_)
      refine skip_ (w1 := ?_) (by rfl) rfl ?_ ?_
      rotate_left
      · go_simp
        rfl
      refine hK.out _ _ ?_
      clear hK K
      refine done_ (by kernel_rfl) ?_
      clear hw hw2 hn
      have hsum : (p : Int) + ((m : Int) + 2) = ((q + 1 : Nat) : Int) := by have := HM.out; omega
      have HF := Aside0.mk (HP.out.at_ ((q + 1 : Nat) : Int))
      clear c0 c1 c2 H1 hR hB hg hat hbk d0 d1 d2 f2 HA
      generalize w6.setCell ⟨g, 2, none⟩ (.slice Ao (T.length + 1) co) = w7 at HP HF ⊢
      as_aux_lemma =>
      obtain ⟨c0, c1, c2, c3, c4, c5, fz⟩ := HP.out.cells
      have f1 := fz 1
      clear fz HP
      go_wp2_with fail
      go_ret
      rw [HR.out]
      exact ⟨rfl, _, _, HF.out⟩
    · have HR : Hid (quoP s p T R = ((false, p, T, R, (42 : Int), (p : Int)) : Rs)) := Lib.hid (by
        unfold quoP
        rw [← HQ.out, if_neg (fun h => h.2 (by rw [hbg]; exact beq_iff_eq.1 hv))])
      clear hm hbg
      go_wp2_with fail
      go_quiet (fail)
      have H1 := Aside0.mk (H9.out.drewN nq)
      clear c0 c1 H9
      generalize w9.drewN nq = w10 at H1 ⊢
      as_aux_lemma =>
      obtain ⟨c0, c1, c2, _⟩ := H1.out.cells
      go_wp2_with fail
      refine (fail_any (p := p) 42 (p : Int) ⟨_, _, H1.out⟩).mono ?_
      rintro e w' ⟨rfl, hE⟩
      go_wp2_with fail
      go_ret
      rw [HR.out]
      exact ⟨rfl, hE⟩
  · rw [if_neg hlt]
    have HR : Hid (quoP s p T R = ((false, p, T, R, (42 : Int), (p : Int)) : Rs)) := Lib.hid (by
      unfold quoP
      rw [← HQ.out, if_neg (fun h => hlt h.1)])
    go_wp2_with fail
    go_quiet (fail)
    have H1 := Aside0.mk (H9.out.drewN nq)
    clear c0 c1 H9
    generalize w9.drewN nq = w10 at H1 ⊢
    as_aux_lemma =>
    obtain ⟨c0, c1, c2, _⟩ := H1.out.cells
    go_wp2_with fail
    refine (fail_any (p := p) 42 (p : Int) ⟨_, _, H1.out⟩).mono ?_
    rintro e w' ⟨rfl, hE⟩
    go_wp2_with fail
    go_ret
    rw [HR.out]
    exact ⟨rfl, hE⟩
end Go.Proofs.Ytmjneidcdaapdaa.P
