/- The lexer's scanner: marks, and what is done with what begins at a place. -/
import Derived.Test.YtmjneidcdaapdaaLex4
import Derived.Test.YtmjneidcdaapdaaLex5
namespace Go.Proofs.Ytmjneidcdaapdaa.P
open Go.RowKit Go.Proofs.YtmjneidcdaapdaaW.PrintWords Go.Proofs.YtmjneidcdaapdaaW.PrintLast Go.Proofs.YtmjneidcdaapdaaW.PrintMore
set_option linter.unusedVariables false
set_option linter.unusedSimpArgs false

theorem marks_sz : ∀ m ∈ marksL, 1 ≤ m.size ∧ m.size ≤ 2 := by decide
theorem marks_len : marksL.length = 21 := rfl
def begB (s : ByteArray) (p : Nat) (m : ByteArray) : Bool := Lib.hasPrefix (s.extract p s.size).data.toList m.data.toList
def findM (s : ByteArray) (p : Nat) : List ByteArray → Option ByteArray
  | [] => none
  | m :: ms => if begB s p m = true then some m else findM s p ms
def marP (s : ByteArray) (p : Nat) (T : List Tk) (R : List ByteArray) : Rs :=
  match findM s p marksL with
  | some m => (true, p + m.size, T ++ [⟨6, m, p⟩], R, 0, 0)
  | none => (false, p, T, R, 41, p)
theorem begB_le {s : ByteArray} {p : Nat} {m : ByteArray} (hp : p ≤ s.size) (h : begB s p m = true) : p + m.size ≤ s.size := by
  unfold begB Lib.hasPrefix at h
  have := (List.isPrefixOf_iff_prefix.1 h).length_le
  simp at this
  have h1 := Lib.size_eq s
  have h2 := Lib.size_eq m
  omega
theorem findM_mem {s : ByteArray} {p : Nat} : ∀ {l : List ByteArray} {m : ByteArray}, findM s p l = some m → m ∈ l ∧ begB s p m = true
  | [], m, h => by simp [findM] at h
  | x :: l, m, h => by
    simp only [findM] at h
    by_cases e : begB s p x = true
    · rw [if_pos e] at h
      cases h
      exact ⟨List.mem_cons_self, e⟩
    · rw [if_neg e] at h
      have := findM_mem h
      exact ⟨List.mem_cons_of_mem _ this.1, this.2⟩
set_option maxHeartbeats 1000000 in
set_option maxRecDepth 100000 in
theorem mark_any {w0 w : World} {g : Nat} {s : ByteArray} {p : Nat} {T : List Tk} {R : List ByteArray} (hs : s.size ≤ 65536) (hp : p < s.size) (hT : T.length ≤ 65536) (h : Sc w0 w g s p T R 0 0) :
    Calls Try.prog 107 #[.pointer (some ⟨g, 0, none⟩)] w (NP w0 g s (marP s p T R)) := by
  obtain ⟨tv, rv, h⟩ := h
  obtain ⟨At, ct, et⟩ := Kd.R_slice h.tok
  subst et
  have H := Aside0.mk h
  have i1 : (0 : Int) ≤ (p : Int) := by omega
  have i2 : (p : Int) ≤ (s.size : Int) := by omega
  clear h
  go_enter Try.func107, Try.ntmps107
  go_wp2_with fail
  refine (marks_any _).mono ?_
  rintro e w1 ⟨vm, rfl, hm, hb⟩
  obtain ⟨Am, cm, rfl, hlm, hcm⟩ := Kd.R_reads hm
  have HCM := Aside0.mk hcm
  have H1 := Aside0.mk (H.out.on hb)
  rw [marks_len] at hlm
  clear H hb hm hcm
  go_wp2_with fail
  rw [marks_len]
  go_loopw [7, 4] (fun i _ wr => ∃ j : Nat, j ≤ 21 ∧ i = .int .i64 j ∧ Aside0 (Below w1.heap.size w1 wr) ∧ Aside0 (findM s p marksL = findM s p (marksL.drop j))) (fun i _ _ => 21 - (intOf i).toNat)
  case atStart => exact ⟨0, by omega, rfl, ⟨Below.refl _ _⟩, ⟨rfl⟩⟩
  case round =>
    obtain ⟨j, hj, rfl, HB, HF⟩ := hrel
    have H2 := Aside0.mk (H1.out.on HB.out)
    obtain ⟨c0, c1, c2, _⟩ := H2.out.cells
    by_cases hlt : j < 21
    · have hjl : j < marksL.length := by rw [marks_len]; exact hlt
      obtain ⟨ad, e1, hel⟩ := Kd.at_string (Kd.C_below HCM.out HB.out) j (by omega) (by rw [marks_len]; omega)
      subst e1
      obtain ⟨m, hm⟩ : ∃ m, m = marksL[j]'hjl := ⟨_, rfl⟩
      have hrd : rdOf ByteArray.empty marksL (j : Int) = m := by
        rw [hm]; unfold rdOf; simp [List.getD_eq_getElem?_getD, List.getElem?_eq_getElem hjl]
      rw [hrd, Int.toNat_natCast] at hel
      have hsz := marks_sz m (by rw [hm]; exact List.getElem_mem _)
      have hd : marksL.drop j = m :: marksL.drop (j + 1) := by rw [hm]; exact List.drop_eq_getElem_cons hjl
      have HFD : Hid (findM s p (marksL.drop j) = if begB s p m = true then some m else findM s p (marksL.drop (j + 1))) := Lib.hid (by rw [hd]; rfl)
      rcases hb : begB s p m with _ | _
      · have HF' := Aside0.mk (HF.out.trans (by rw [HFD.out, hb]; rfl : findM s p (marksL.drop j) = findM s p (marksL.drop (j + 1))))
        have HBG : Hid (Lib.hasPrefix (s.extract p s.size).data.toList m.data.toList = false) := Lib.hid hb
        clear hb hd hm hrd HFD HF hjl
        go_wp2_with fail
        go_quiet ((go_at_call 131; exact quiet_s (Try.strings_HasPrefix _ _ _)))
        rw [HBG.out]
        have HB2 := Aside0.mk (pw_below_drewN HB.out nq)
        go_wp2_with fail
        go_roundw
        case rel => exact ⟨j + 1, by omega, by go_num, HB2, HF'⟩
        case measure => simp [intOf]; omega
      · have HR : Hid (marP s p T R = ((true, p + m.size, T ++ [⟨6, m, p⟩], R, 0, 0) : Rs)) := Lib.hid (by
          unfold marP
          rw [HF.out, HFD.out, if_pos hb])
        have HBG : Hid (Lib.hasPrefix (s.extract p s.size).data.toList m.data.toList = true) := Lib.hid hb
        clear hb hd hm hrd HFD HF hjl
        go_wp2_with fail
        go_quiet ((go_at_call 131; exact quiet_s (Try.strings_HasPrefix _ _ _)))
        rw [HBG.out]
        have H3 := Aside0.mk (H2.out.drewN nq)
        clear H2 H1 HB HCM c0 c1 c2 hel
        generalize wr.drewN nq = w3 at H3 ⊢
        as_aux_lemma =>
        obtain ⟨c0, c1, c2, _⟩ := H3.out.cells
        go_wp2_with fail
        refine start_ (n := 16) (S := fun w' => w'.cell? ⟨g, 1, none⟩ = some (.int .i64 p) ∧ w'.cell? ⟨g, 2, none⟩ = some (.slice At T.length ct)) (ds := [15]) #[false, false, false, false, false, false, false, false, false, false, false, false, false, false, false, false] (by kernel_rfl) rfl rfl (⟨c1, c2⟩) (fun hHeld => ?_)
        refine pure_ (i := 0) (N := some 22) (v := ?_) (a' := ?_) #[true, false, false, false, false, false, false, false, false, false, false, false, false, false, false, false] rfl rfl (by kernel_rfl) (fun _ _ _ h => h) (Or.inl ⟨by rfl, ?_⟩) ?_ ?_
        rotate_left
        · intro w'
          go_simp
          with_reducible rfl
        rotate_left
        · simp only [Act.put, List.setIfInBounds_toArray, List.set_cons_zero, List.set_cons_succ, i64_w, i32_w]
          rfl
        refine pure_ (i := 1) (N := some 23) (v := ?_) (a' := ?_) #[true, true, false, false, false, false, false, false, false, false, false, false, false, false, false, false] rfl rfl (by kernel_rfl) (fun _ _ _ h => h) (Or.inl ⟨by rfl, ?_⟩) ?_ ?_
        rotate_left
        · intro w'
          go_simp
          with_reducible rfl
        rotate_left
        · simp only [Act.put, List.setIfInBounds_toArray, List.set_cons_zero, List.set_cons_succ, i64_w, i32_w]
          rfl
        refine pure_ (i := 2) (N := some 24) (v := ?_) (a' := ?_) #[true, true, true, false, false, false, false, false, false, false, false, false, false, false, false, false] rfl rfl (by kernel_rfl) (fun _ _ _ h => h) (Or.inl ⟨by rfl, ?_⟩) ?_ ?_
        rotate_left
        · intro w'
          go_simp
          with_reducible rfl
        rotate_left
        · simp only [Act.put, List.setIfInBounds_toArray, List.set_cons_zero, List.set_cons_succ, i64_w, i32_w]
          rfl
        refine pure_ (i := 3) (N := some 25) (v := ?_) (a' := ?_) #[true, true, true, true, false, false, false, false, false, false, false, false, false, false, false, false] rfl rfl (by kernel_rfl) (fun _ _ _ h => h) (Or.inl ⟨by rfl, ?_⟩) ?_ ?_
        rotate_left
        · intro w'
          go_simp
          with_reducible rfl
        rotate_left
        · simp only [Act.put, List.setIfInBounds_toArray, List.set_cons_zero, List.set_cons_succ, i64_w, i32_w]
          rfl
        refine pure_ (i := 5) (N := some 27) (v := ?_) (a' := ?_) #[true, true, true, true, false, true, false, false, false, false, false, false, false, false, false, false] rfl rfl (by kernel_rfl) (fun _ _ _ h => h) (Or.inl ⟨by rfl, ?_⟩) ?_ ?_
        rotate_left
        · intro w'
          go_simp
          with_reducible rfl
        rotate_left
        · simp only [Act.put, List.setIfInBounds_toArray, List.set_cons_zero, List.set_cons_succ, i64_w, i32_w]
          rfl
        refine pure_ (i := 6) (N := some 28) (v := ?_) (a' := ?_) #[true, true, true, true, false, true, true, false, false, false, false, false, false, false, false, false] rfl rfl (by kernel_rfl) (fun _ _ _ h => h) (Or.inl ⟨by rfl, ?_⟩) ?_ ?_
        rotate_left
        · intro w'
          go_simp
          with_reducible rfl
        rotate_left
        · simp only [Act.put, List.setIfInBounds_toArray, List.set_cons_zero, List.set_cons_succ, i64_w, i32_w]
          rfl
        refine pure_ (i := 7) (N := some 29) (v := ?_) (a' := ?_) #[true, true, true, true, false, true, true, true, false, false, false, false, false, false, false, false] rfl rfl (by kernel_rfl) (fun _ _ _ h => h) (Or.inl ⟨by rfl, ?_⟩) ?_ ?_
        rotate_left
        · intro w'
          go_simp
          with_reducible rfl
        rotate_left
        · simp only [Act.put, List.setIfInBounds_toArray, List.set_cons_zero, List.set_cons_succ, i64_w, i32_w]
          rfl
        refine pure_ (i := 8) (N := some 30) (v := ?_) (a' := ?_) #[true, true, true, true, false, true, true, true, true, false, false, false, false, false, false, false] rfl rfl (by kernel_rfl) (fun _ _ _ h => h) (Or.inl ⟨by rfl, ?_⟩) ?_ ?_
        rotate_left
        · intro w'
          go_simp
          with_reducible rfl
        rotate_left
        · simp only [Act.put, List.setIfInBounds_toArray, List.set_cons_zero, List.set_cons_succ, i64_w, i32_w]
          rfl
        refine take_ (i := 4) (N := some 26) (v := ?_) (a' := ?_) #[true, true, true, true, true, true, true, true, true, false, false, false, false, false, false, false] rfl rfl (by kernel_rfl) (fun _ _ _ h => h) (Or.inl ⟨by rfl, ?_⟩) hHeld ?_ ?_
        rotate_left
        · rintro w' ⟨s0, s1⟩
          go_simp
          with_reducible rfl
        rotate_left
        · simp only [Act.put, List.setIfInBounds_toArray, List.set_cons_zero, List.set_cons_succ, i64_w, i32_w]
          rfl
        refine take_ (i := 9) (N := some 31) (v := ?_) (a' := ?_) #[true, true, true, true, true, true, true, true, true, true, false, false, false, false, false, false] rfl rfl (by kernel_rfl) (fun _ _ _ h => h) (Or.inl ⟨by rfl, ?_⟩) hHeld ?_ ?_
        rotate_left
        · rintro w' ⟨s0, s1⟩
          go_simp
          with_reducible rfl
        rotate_left
        · simp only [Act.put, List.setIfInBounds_toArray, List.set_cons_zero, List.set_cons_succ, i64_w, i32_w]
          rfl
        refine pure_ (i := 10) (N := some 32) (v := ?_) (a' := ?_) #[true, true, true, true, true, true, true, true, true, true, true, false, false, false, false, false] rfl rfl (by kernel_rfl) (fun _ _ _ h => h) (Or.inl ⟨by rfl, ?_⟩) ?_ ?_
        rotate_left
        · intro w'
          go_simp
          with_reducible rfl
        rotate_left
        · simp only [Act.put, List.setIfInBounds_toArray, List.set_cons_zero, List.set_cons_succ, i64_w, i32_w]
          rfl
        refine one_ (i := 11) (N := some 33) #[true, true, true, true, true, true, true, true, true, true, true, true, false, false, false, false] rfl rfl (by kernel_rfl) (by decide) (fun K hK => ?_)
        have HA := (H3.out.drew.alloc (.cells #[.int .i64 6, .string m, .int .i64 p] 76 (0, 0))).cells
        refine value_ (w1 := ?_) (v := ?_) (by rfl) rfl ?_ ?_
        rotate_left 2
        · go_simp
          constructor
          · rfl
          · rfl
        refine hK.out _ _ (⟨HA.2.1, HA.2.2.1⟩) (fun hHeld => ?_)
        clear hK K
        refine norm_ (a' := ?_) ?_ ?_
        rotate_left
        · show Act.put _ (some 33) _ = _
          simp only [Act.put, List.setIfInBounds_toArray, List.set_cons_zero, List.set_cons_succ, i64_w, i32_w]
          rfl
        refine one_ (i := 12) (N := some 34) #[true, true, true, true, true, true, true, true, true, true, true, true, true, false, false, false] rfl rfl (by kernel_rfl) (by decide) (fun K hK => ?_)
        refine Kd.R_append_step k76 (w0 := w0) (W := w3.drew) w0.heap.size (by simp [Region.wanted]) (.tmp 26) (.tmp 33) 30 76 (.agg #[.int .i64 0, .string ⟨#[]⟩, .int .i64 0]) 32 rfl Try.underlying30 infoTk rfl (by decide) (by omega) (.slice At T.length ct) T ⟨6, m, p⟩ [.int .i64 6, .string m, .int .i64 p] (fun _ => True) (fun _ => False) (by rfl) (by rfl) (k76_mkM _ _ _ ⟨6, m, p⟩) (fun _ h => h.elim) (fun _ _ => trivial) H3.out.drew.tok H3.out.drew.below H3.out.drew.below.size (by omega) ?_
        intro vn w6 hR hB hg hat
        have el : (T ++ [(⟨6, m, p⟩ : Tk)]).length = T.length + 1 := by simp
        obtain ⟨Ao, co, eo⟩ := Kd.R_slice hR
        rw [el] at eo
        subst eo
        clear el
        have HP := Aside0.mk (H3.out.drew.putT hR hg)
        have hbk := blk_grown H3.out.drew.blk hg (Kd.R_ne H3.out.drew.tok H3.out.drew.blk (by decide))
        have d1 := (blk_cell hbk 1).trans rfl
        have d2 := (blk_cell hbk 2).trans rfl
        have f2 := blk_frozen hbk 2
        refine hK.out _ _ (⟨d1, d2⟩) (fun hHeld => ?_)
        clear hK K
        refine norm_ (a' := ?_) ?_ ?_
        rotate_left
        · show Act.put _ (some 34) _ = _
          simp only [Act.put, List.setIfInBounds_toArray, List.set_cons_zero, List.set_cons_succ, i64_w, i32_w]
          rfl
        refine pure_ (i := 13) (N := some 35) (v := ?_) (a' := ?_) #[true, true, true, true, true, true, true, true, true, true, true, true, true, true, false, false] rfl rfl (by kernel_rfl) (fun _ _ _ h => h) (Or.inl ⟨by rfl, ?_⟩) ?_ ?_
        rotate_left
        · intro w'
          go_simp
          with_reducible rfl
        rotate_left
        · simp only [Act.put, List.setIfInBounds_toArray, List.set_cons_zero, List.set_cons_succ, i64_w, i32_w]
          rfl
        refine pure_ (i := 14) (N := some 36) (v := ?_) (a' := ?_) #[true, true, true, true, true, true, true, true, true, true, true, true, true, true, true, false] rfl rfl (by kernel_rfl) (fun _ _ _ h => h) (Or.inl ⟨by rfl, ?_⟩) ?_ ?_
        rotate_left
        · intro w'
          go_simp
          with_reducible rfl
        rotate_left
        · simp only [Act.put, List.setIfInBounds_toArray, List.set_cons_zero, List.set_cons_succ, i64_w, i32_w]
          rfl
        refine last_ (i := 15) (N := none) #[true, true, true, true, true, true, true, true, true, true, true, true, true, true, true, true] rfl rfl (by kernel_rfl) (by decide) (fun K hK => ?_)
        refine skip_ (w1 := ?_) (by rfl) rfl ?_ ?_
        rotate_left
        · go_simp
          rfl
        refine hK.out _ _ ?_
        clear hK K
        refine done_ (by kernel_rfl) ?_
        have HF := Aside0.mk (HP.out.at_ ((p + m.size : Nat) : Int))
        clear c0 c1 c2 H3 hR hB hg hat hbk d1 d2 f2 HA
        generalize w6.setCell ⟨g, 2, none⟩ (.slice Ao (T.length + 1) co) = w7 at HP HF ⊢
        as_aux_lemma =>
        obtain ⟨c0, c1, c2, c3, c4, c5, fz⟩ := HP.out.cells
        have f1 := fz 1
        have b1 : (p : Int) + (m.size : Int) ≤ 100000 := by omega
        clear fz HP
        go_wp2_with fail
        go_ret
        rw [HR.out]
        exact ⟨rfl, _, _, by simpa using HF.out⟩
    · have HR : Hid (marP s p T R = ((false, p, T, R, (41 : Int), (p : Int)) : Rs)) := Lib.hid (by
        unfold marP
        rw [HF.out, List.drop_of_length_le (by rw [marks_len]; omega)]
        rfl)
      go_wp2_with fail
      refine (fail_any (p := p) 41 (p : Int) ⟨_, _, H2.out⟩).mono ?_
      rintro e w' ⟨rfl, hE⟩
      go_wp2_with fail
      go_ret
      rw [HR.out]
      exact ⟨rfl, hE⟩
end Go.Proofs.Ytmjneidcdaapdaa.P
