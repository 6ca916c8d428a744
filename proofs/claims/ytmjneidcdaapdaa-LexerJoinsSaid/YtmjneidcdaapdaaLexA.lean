/- strings.IndexAny of any text at the two bytes 34 and 10. -/
import Derived.Test.YtmjneidcdaapdaaShelf
import Derived.Test.YtmjneidcdaapdaaIter
import Derived.Lib.SpaceUEq
import Derived.Lib.MapLaws
import Derived.Deep.QuietTactic
import Derived.BigQuiet
namespace Go.Proofs.Ytmjneidcdaapdaa.P
open Go.RowKit Go.Proofs.YtmjneidcdaapdaaW.PrintWords Go.Proofs.YtmjneidcdaapdaaW.PrintLast Go.Proofs.YtmjneidcdaapdaaW.PrintMore
set_option linter.unusedVariables false
set_option linter.unusedSimpArgs false

def qN : ByteArray := ⟨#[34, 10]⟩
/-- What a rune is that was read from a byte of 128 or more. -/
def HighR (r : Int) : Prop := r = 65533 ∨ (128 ≤ r ∧ r < 55296) ∨ (57344 ≤ r ∧ r ≤ 1114111)
theorem enc2 {r : Int} (h : HighR r) (h2 : r < 2048) : ∃ x y : UInt8, Utf8.encode r = ⟨#[x, y]⟩ ∧ 128 ≤ y.toNat := by
  have h1 : 128 ≤ r := by unfold HighR at h; omega
  have hv : Utf8.valid r = true := by unfold HighR at h; simp [Utf8.valid]; omega
  refine ⟨UInt8.ofNat (0xC0 + r.toNat / 64), UInt8.ofNat (0x80 + r.toNat % 64), ?_, ?_⟩
  · unfold Utf8.encode
    simp only [hv, if_true]
    rw [if_neg (by omega), if_pos (by omega)]
  · simp [UInt8.toNat_ofNat']
    omega
theorem enc34 {r : Int} (h : HighR r) (h2 : 2048 ≤ r) : 3 ≤ (Utf8.encode r).size := by
  have hv : Utf8.valid r = true := by unfold HighR at h; simp [Utf8.valid]; omega
  unfold Utf8.encode
  simp only [hv, if_true]
  rw [if_neg (by omega), if_neg (by omega)]
  split <;> simp [ByteArray.size]
theorem quiet_s {P : Program} {f : FuncId} {args : Array Value} {w : World} {n : Nat} {v : Value} (h : Calls P f args (w.drewN n) fun e w' => e = .returned v ∧ w' = w.drewN n) :
    Calls P f args (w.drewN n) fun e w'' => e = .returned v ∧ ∃ m, w'' = w.drewN m :=
  h.mono fun _ _ ⟨he, hw⟩ => ⟨he, n, hw⟩
set_option maxHeartbeats 2000000 in
set_option maxRecDepth 1000000 in
theorem indexRune_high (r : Int) (w : World) (h : HighR r) :
    Calls Try.prog 116 #[.string qN, .int .i32 r] w fun e w' => e = .returned (.int .i64 (-1)) ∧ Below w.heap.size w w' := by
  have hr0 : (0 : Int) ≤ r := by unfold HighR at h; omega
  have hr1 : ¬ r < 128 := by unfold HighR at h; omega
  have d1 : decide (r < 128) = false := decide_eq_false hr1
  by_cases e : r = 65533
  · subst e
    unfold qN
    have hnx := fun (W : World) (pos : Nat) (hg : W.heap[w.heap.size]? = some (.stringIter (⟨#[34, 10]⟩ : ByteArray) pos)) => hg
    go_enter Try.func116, Try.ntmps116
    go_wp2_with fail
    clear hnx hr0 hr1 d1 h
    go_loopw [5, 6] (fun _ _ wr => ∃ k : Nat, k ≤ 2 ∧ Aside0 (wr.heap[w.heap.size]? = some (.stringIter (⟨#[34, 10]⟩ : ByteArray) k)) ∧ Aside0 (Below w.heap.size w wr)) (fun _ _ wr => 2 - wr.iterPos w.heap.size)
    case atStart => exact ⟨0, by omega, ⟨World.iter_heap _ _ _⟩, ⟨below_alloc (Below.refl _ _) _⟩⟩
    case round =>
      obtain ⟨k, hk, HI, HB⟩ := hrel
      have HPos := Lib.hid (show wr.iterPos w.heap.size = k by simp [World.iterPos, HI.out])
      by_cases hlt : k < 2
      · have hlow : bt (⟨#[34, 10]⟩ : ByteArray) (k : Int) < 128 := by
          match k, hlt with
          | 0, _ => decide
          | 1, _ => decide
        have hlow' : (bt (⟨#[34, 10]⟩ : ByteArray) (k : Int) == 65533) = false := by simp; omega
        have hnx : ∀ ty, (Instr.next (.pointer (some ⟨w.heap.size, 0, none⟩)) true ty).run Try.prog wr = _ := fun ty => next_low (⟨#[34, 10]⟩ : ByteArray) k ty HI.out hlt hlow
        have HB1 := Aside0.mk (setIter_below HB.out (Nat.le_refl w.heap.size) (.stringIter (⟨#[34, 10]⟩ : ByteArray) (k + 1)))
        have hi1 : (setIter wr w.heap.size (.stringIter (⟨#[34, 10]⟩ : ByteArray) (k + 1))).heap[w.heap.size]? = some (.stringIter (⟨#[34, 10]⟩ : ByteArray) (k + 1)) := setIter_same (W := wr) (g := w.heap.size) (Array.getElem?_eq_some_iff.1 HI.out).1 _
        have HI1 := Aside0.mk hi1
        have HP1 := Lib.hid (show (setIter wr w.heap.size (.stringIter (⟨#[34, 10]⟩ : ByteArray) (k + 1))).iterPos w.heap.size = k + 1 by simp [World.iterPos, hi1])
        clear hi1 hlow
        go_wp2_with fail
        refine ⟨⟨k + 1, by omega, HI1, HB1⟩, ?_⟩
        rw [HPos.out, HP1.out]
        omega
      · have hnx : ∀ ty, (Instr.next (.pointer (some ⟨w.heap.size, 0, none⟩)) true ty).run Try.prog wr = _ := fun ty => next_end (⟨#[34, 10]⟩ : ByteArray) k ty HI.out hlt
        go_wp2_with fail
        go_ret
        exact ⟨rfl, HB.out⟩
  have hv : Lib.validRune r = true := by unfold HighR at h; simp [Lib.validRune]; omega
  have d2 : (r == 65533) = false := by simpa using e
  by_cases h2 : r < 2048
  · obtain ⟨x, y, he, hy⟩ := enc2 h h2
    clear h h2 e
    unfold qN
    go_enter Try.func116, Try.ntmps116
    go_wp2_with fail
    refine (Try.utf8_ValidRune _ _).mono ?_
    rintro e w' ⟨rfl, hw⟩
    rw [hw, hv]
    go_wp2_with fail
    go_step3
    go_wp2_with fail
    have hne : ((10 : Int) != (y.toNat : Int)) = true := by simp; omega
    have hne' : ((10 : Int) == (y.toNat : Int)) = false := by simp; omega
    have hq : ((((⟨#[34, 10]⟩ : ByteArray)[1]'(by decide : 1 < 2)).toNat : Int) != (((⟨#[x, y]⟩ : ByteArray)[1]'(by decide : 1 < 2)).toNat : Int)) = true := hne
    have hix : ∀ x, Lib.indexByte ByteArray.empty.data.toList x = -1 := fun _ => rfl
    clear he hy hv d1 d2 hw
    go_loopw [9] (fun i wr => i = .int .i64 1 ∧ wr = w) (fun _ _ => 1)
    case atStart => exact ⟨rfl, rfl⟩
    case round =>
      obtain ⟨rfl, hw⟩ := hrel
      rw [hw]
      clear hw
      go_wp2_with fail
      go_step3
      go_wp2_with fail
      go_quiet (fail)
      have HB := Aside0.mk (pw_below_drewN (Below.refl w.heap.size w) nq)
      generalize w.drewN nq = w1 at HB ⊢
      go_wp2_with fail
      go_quiet ((go_at_call 132; exact quiet_s (Try.strings_IndexByte _ _ _)))
      simp only [hix]
      go_wp2_with fail
      rw [Exit.noGoto_ret]
      go_wp2_with fail
      rw [Exit.noGoto_ret]
      go_wp2_with fail
      go_ret
      exact ⟨rfl, pw_below_drewN HB.out _⟩
  · have he := enc34 h (by omega)
    have h2' : ¬ r < 2048 := h2
    obtain ⟨rs, hrs⟩ : ∃ rs, rs = Utf8.encode r := ⟨_, rfl⟩
    have hrs' := hrs.symm
    rw [← hrs] at he
    have h4 : rs.size ≤ 4 := by
      rw [hrs]
      unfold Utf8.encode
      simp only
      repeat' split
      all_goals simp [ByteArray.size]
    clear h h2 e h2' hrs
    unfold qN
    go_enter Try.func116, Try.ntmps116
    go_wp2_with fail
    refine (Try.utf8_ValidRune _ _).mono ?_
    rintro e w' ⟨rfl, hw⟩
    rw [hw, hv]
    go_wp2_with fail
    go_step3
    go_wp2_with fail
    clear hrs' hv d1 d2 hw
    go_loopw [9] (fun i wr => i = .int .i64 ((rs.size : Int) - 1) ∧ wr = w) (fun _ _ => 1)
    case atStart => exact ⟨rfl, rfl⟩
    case round =>
      obtain ⟨rfl, hw⟩ := hrel
      rw [hw]
      clear hw
      go_wp2_with fail
      rw [Exit.noGoto_ret]
      go_wp2_with fail
      go_ret
      exact ⟨rfl, Below.refl _ _⟩
theorem get_of {s : ByteArray} {j : Nat} {b : UInt8} (h : s.data.toList[j]? = some b) : s.get! j = b := by
  obtain ⟨hl, e⟩ := List.getElem?_eq_some_iff.1 h
  have hj : j < s.data.size := by simpa using hl
  show s.data[j]! = b
  rw [getElem!_pos s.data j hj]
  simpa using e
theorem dec_high {s : ByteArray} {i : Nat} (h : i < s.size) (hx : 128 ≤ (s[i]'h).toNat) :
    HighR (Utf8.decode s i).1 ∧ i + (Utf8.decode s i).2 ≤ s.size ∧ 1 ≤ (Utf8.decode s i).2 ∧ ∀ (j : Nat) b, i ≤ j → j < i + (Utf8.decode s i).2 → s.data.toList[j]? = some b → 128 ≤ b.toNat := by
  have h0 : s.get! i = s[i]'h := get_of (Lib.data_getElem? s i h)
  rw [Lib.decode_at]
  have hb : 128 ≤ (s.get! i).toNat := by rw [h0]; exact hx
  have l0 := (s.get! i).toNat_lt
  have key : ∀ (j : Nat) b k, j = i + k → s.data.toList[j]? = some b → b.toNat = (s.get! (i + k)).toNat := fun j b k e hj => by rw [← e, get_of hj]
  rcases Lib.decodeN_shape (s.size - i) (s.get! i).toNat (s.get! (i + 1)).toNat (s.get! (i + 2)).toNat (s.get! (i + 3)).toNat with ⟨q, e⟩ | ⟨q0, q1, q2, q3, e⟩ | ⟨q0, q1, q2, q3, q4, q5, e⟩ | ⟨q0, q1, q2, q3, q4, q5, q6, e⟩ | e
  · omega
  · rw [e]
    refine ⟨?_, by simp only; omega, by simp only; omega, fun j b h1 h2 hj => ?_⟩
    · unfold HighR; simp only; omega
    · simp only at h2
      have cs : j = i + 0 ∨ j = i + 1 := by omega
      rcases cs with e | e
      all_goals
        have := key j b _ e hj
        try simp only [Nat.add_zero] at this
        omega
  · rw [e]
    refine ⟨?_, by simp only; omega, by simp only; omega, fun j b h1 h2 hj => ?_⟩
    · unfold HighR; simp only; omega
    · simp only at h2
      have cs : j = i + 0 ∨ j = i + 1 ∨ j = i + 2 := by omega
      rcases cs with e | e | e
      all_goals
        have := key j b _ e hj
        try simp only [Nat.add_zero] at this
        omega
  · rw [e]
    refine ⟨?_, by simp only; omega, by simp only; omega, fun j b h1 h2 hj => ?_⟩
    · unfold HighR; simp only; omega
    · simp only at h2
      have cs : j = i + 0 ∨ j = i + 1 ∨ j = i + 2 ∨ j = i + 3 := by omega
      rcases cs with e | e | e | e
      all_goals
        have := key j b _ e hj
        try simp only [Nat.add_zero] at this
        omega
  · rw [e]
    refine ⟨?_, by simp only; omega, by simp only; omega, fun j b h1 h2 hj => ?_⟩
    · unfold HighR; simp only; omega
    · simp only at h2
      have := key j b 0 (by omega) hj
      try simp only [Nat.add_zero] at this
      omega
theorem noAny_high {s : ByteArray} {i n : Nat} (h : Lib.NoAny s.data.toList qN.data.toList i) (hn : ∀ (j : Nat) b, i ≤ j → j < i + n → s.data.toList[j]? = some b → 128 ≤ b.toNat) : Lib.NoAny s.data.toList qN.data.toList (i + n) := fun j b hj hb => by
  by_cases e : j < i
  · exact h j b e hb
  · have h1 := hn j b (by omega) hj hb
    have h2 : b ≠ 34 := fun e => by rw [e] at h1; simp at h1
    have h3 : b ≠ 10 := fun e => by rw [e] at h1; simp at h1
    simp [qN, h2, h3]
set_option maxHeartbeats 4000000 in
set_option maxRecDepth 1000000 in
theorem indexAny_short (s : ByteArray) (w : World) (h8 : s.size ≤ 8) :
    Calls Try.prog 94 #[.string s, .string qN] w fun e w' => e = .returned (.int .i64 (Lib.indexAny s.data.toList qN.data.toList)) ∧ Below w.heap.size w w' := by
  have h8z : decide ((8 : Int) < (s.size : Int)) = false := decide_eq_false (by omega)
  show Calls Try.prog 94 #[.string s, .string ⟨#[34, 10]⟩] w _
  go_enter Try.func94, Try.ntmps94
  go_wp2_with fail
  refine (Try.strings_shouldUseASCIISet _ _).mono ?_
  rintro e w' ⟨rfl, hw⟩
  rw [hw, h8z]
  go_wp2_with fail
  clear hw h8z
  go_loopw [9, 10] (fun _ _ wr => ∃ k : Nat, k ≤ s.size ∧ Aside0 (wr.heap[w.heap.size]? = some (.stringIter s k)) ∧ Aside0 (Below w.heap.size w wr) ∧ Aside0 (Lib.NoAny s.data.toList qN.data.toList k)) (fun _ _ wr => s.size - wr.iterPos w.heap.size)
  case atStart => exact ⟨0, by omega, ⟨World.iter_heap _ _ _⟩, ⟨below_alloc (Below.refl _ _) _⟩, ⟨Lib.NoAny.zero _ _⟩⟩
  case round =>
    obtain ⟨k, hk, HI, HB, HN⟩ := hrel
    have HPos := Lib.hid (show wr.iterPos w.heap.size = k by simp [World.iterPos, HI.out])
    by_cases hlt : k < s.size
    · have hxl : s.data.toList[k]? = some (s[k]'hlt) := Lib.data_getElem? s k hlt
      have hbg := bt_get s k hlt
      by_cases hlow : bt s k < 128
      · have hnx : ∀ ty, (Instr.next (.pointer (some ⟨w.heap.size, 0, none⟩)) true ty).run Try.prog wr = _ := fun ty => next_low s k ty HI.out hlt hlow
        have HB1 := Aside0.mk (setIter_below HB.out (Nat.le_refl w.heap.size) (.stringIter s (k + 1)))
        have hi1 : (setIter wr w.heap.size (.stringIter s (k + 1))).heap[w.heap.size]? = some (.stringIter s (k + 1)) := setIter_same (W := wr) (g := w.heap.size) (Array.getElem?_eq_some_iff.1 HI.out).1 _
        have HI1 := Aside0.mk hi1
        have HP1 := Lib.hid (show (setIter wr w.heap.size (.stringIter s (k + 1))).iterPos w.heap.size = k + 1 by simp [World.iterPos, hi1])
        have hcon := Lib.contains_iff_indexByte qN.data.toList (s[k]'hlt)
        have hback : ((bt s k).toNat.toUInt8) = s[k]'hlt := by rw [hbg]; simp
        have HBK := Lib.hid hback
        have h0 : 0 ≤ bt s k := by rw [hbg]; omega
        have HXL := Lib.hid hxl
        clear hi1 hbg hxl hback
        cases hin : qN.data.toList.contains (s[k]'hlt)
        · rw [hin] at hcon
          have hlt' : ¬ ((0 : Int) ≤ Lib.indexByte (⟨#[34, 10]⟩ : ByteArray).data.toList (s[k]'hlt)) := of_decide_eq_false hcon.symm
          have HN1 := Aside0.mk (HN.out.succ HXL.out hin)
          clear hcon hin
          go_wp2_with fail
          refine (Try.strings_IndexRune_ascii _ _ _ h0 hlow).mono ?_
          rintro e w'' ⟨rfl, hw⟩
          rw [hw, HBK.out]
          clear hw
          go_wp2_with fail
          refine ⟨⟨k + 1, by omega, HI1, HB1, HN1⟩, ?_⟩
          rw [HPos.out, HP1.out]
          omega
        · rw [hin] at hcon
          have hge : (0 : Int) ≤ Lib.indexByte (⟨#[34, 10]⟩ : ByteArray).data.toList (s[k]'hlt) := of_decide_eq_true hcon.symm
          have HF := Lib.hid (Lib.indexAny_hit HN.out HXL.out hin)
          clear hcon hin
          go_wp2_with fail
          refine (Try.strings_IndexRune_ascii _ _ _ h0 hlow).mono ?_
          rintro e w'' ⟨rfl, hw⟩
          rw [hw, HBK.out]
          clear hw
          go_wp2_with fail
          go_ret
          exact ⟨by rw [HF.out]; rfl, HB1.out⟩
      · obtain ⟨d1, d2, d3, d4⟩ := dec_high hlt (by rw [hbg] at hlow; omega)
        have hnx : ∀ ty, (Instr.next (.pointer (some ⟨w.heap.size, 0, none⟩)) true ty).run Try.prog wr = _ := fun ty => next_any s k ty HI.out hlt
        obtain ⟨rn, hrn⟩ : ∃ rn, rn = (Utf8.decode s k).1 := ⟨_, rfl⟩
        obtain ⟨wd, hwd⟩ : ∃ wd, wd = (Utf8.decode s k).2 := ⟨_, rfl⟩
        rw [← hrn] at d1
        simp only [← hrn, ← hwd] at hnx
        rw [← hwd] at d2 d3 d4
        have HN1 := Aside0.mk (noAny_high HN.out d4)
        have HB1 := Aside0.mk (setIter_below HB.out (Nat.le_refl w.heap.size) (.stringIter s (k + wd)))
        have hi1 : (setIter wr w.heap.size (.stringIter s (k + wd))).heap[w.heap.size]? = some (.stringIter s (k + wd)) := setIter_same (W := wr) (g := w.heap.size) (Array.getElem?_eq_some_iff.1 HI.out).1 _
        have HI1 := Aside0.mk hi1
        have HP1 := Lib.hid (show (setIter wr w.heap.size (.stringIter s (k + wd))).iterPos w.heap.size = k + wd by simp [World.iterPos, hi1])
        clear hi1 hbg hxl hlow d4 hrn hwd
        go_wp2_with fail
        refine (indexRune_high _ _ d1).mono ?_
        rintro e w'' ⟨rfl, hb⟩
        have hb2 := Aside0.mk (below_step HB1.out hb)
        have hi2 : w''.heap[w.heap.size]? = some (.stringIter s (k + wd)) := (hb.block _ (Array.getElem?_eq_some_iff.1 HI1.out).1).trans HI1.out
        have HI2 := Aside0.mk hi2
        have HP2 := Lib.hid (show w''.iterPos w.heap.size = k + wd by simp [World.iterPos, hi2])
        clear hb hi2 HI1 HP1 HB1
        go_wp2_with fail
        refine ⟨⟨k + wd, by omega, HI2, hb2, HN1⟩, ?_⟩
        rw [HPos.out, HP2.out]
        omega
    · obtain rfl : k = s.size := by omega
      have hnx : ∀ ty, (Instr.next (.pointer (some ⟨w.heap.size, 0, none⟩)) true ty).run Try.prog wr = _ := fun ty => next_end s s.size ty HI.out hlt
      have HF := Lib.hid (Lib.indexAny_none (by have := HN.out; rwa [Lib.size_eq] at this))
      go_wp2_with fail
      go_ret
      exact ⟨by rw [HF.out]; rfl, HB.out⟩
theorem indexAny_q (s : ByteArray) (w : World) (hs : s.size < 4294967281) :
    Calls Try.prog 94 #[.string s, .string qN] w fun e w' => e = .returned (.int .i64 (Lib.indexAny s.data.toList qN.data.toList)) ∧ Below w.heap.size w w' := by
  by_cases h8 : s.size ≤ 8
  · exact indexAny_short s w h8
  · have h116 : (Try.prog.info? 213).map (fun i => (i.zero, i.size)) = some (some (.agg (Array.replicate 256 (.bool false))), 256) := by kernel_rfl
    refine (Try.strings_IndexAny_long (zero_of_info h116).1 s qN w (by decide) (by omega) hs (by decide) (fun j b hb => ?_)).mono ?_
    · match j, hb with
      | 0, hb => cases hb; decide
      | 1, hb => cases hb; decide
      | j + 2, hb => cases hb
    · rintro e w' ⟨rfl, hw⟩
      rw [hw]
      exact ⟨rfl, below_alloc (below_alloc (Below.refl _ _) _) _⟩
end Go.Proofs.Ytmjneidcdaapdaa.P
