/- The lexer's scanner: a whole text. -/
import Derived.Test.YtmjneidcdaapdaaLex7
import Derived.Test.YtmjneidcdaapdaaLexP
namespace Go.Proofs.Ytmjneidcdaapdaa.P
open Go.RowKit Go.Proofs.YtmjneidcdaapdaaW.PrintWords Go.Proofs.YtmjneidcdaapdaaW.PrintLast Go.Proofs.YtmjneidcdaapdaaW.PrintMore
set_option linter.unusedVariables false
set_option linter.unusedSimpArgs false

def Adv (s : ByteArray) (p : Nat) (T : List Tk) (R : List ByteArray) (r : Rs) : Prop :=
  (r.1 = true → p < r.2.1 ∧ r.2.1 ≤ s.size ∧ r.2.2.2.2.1 = 0 ∧ r.2.2.2.2.2 = 0 ∧ r.2.2.1.length ≤ T.length + 1 ∧ r.2.2.2.1.length ≤ R.length + 1) ∧ (r.1 = false → r.2.2.2.2.1 ≠ 0)
theorem putP_adv {s : ByteArray} {p q : Nat} {k : Int} {T : List Tk} {R : List ByteArray} (h1 : p < q) (h2 : q ≤ s.size) : Adv s p T R (putP s p k q T R) := by
  unfold putP
  split
  · exact ⟨fun h => by simp at h, fun _ => by simp⟩
  · exact ⟨fun _ => ⟨h1, h2, rfl, rfl, by simp, by simp⟩, fun h => by simp at h⟩
theorem runI_gt {s : ByteArray} {G : Int → Bool} {p : Nat} (hp : p < s.size) (h : G (clsI (bt s p)) = true) : p < runI s G p ∧ runI s G p ≤ s.size := by
  rw [runI_yes hp h]
  have := runI_le s G (p := p + 1) (by omega)
  omega
theorem wordP_adv {s : ByteArray} {p : Nat} {k : Int} {G : Int → Bool} {T : List Tk} {R : List ByteArray} (hp : p < s.size) (h : G (clsI (bt s p)) = true) : Adv s p T R (wordP s p k G T R) := by
  unfold wordP
  split
  · exact ⟨fun h => by simp at h, fun _ => by simp⟩
  · exact putP_adv (runI_gt hp h).1 (runI_gt hp h).2
theorem nexP_adv {s : ByteArray} {p : Nat} (T : List Tk) (R : List ByteArray) (hp : p < s.size) : Adv s p T R (nexP s p T R) := by
  unfold nexP
  split
  · exact ⟨fun _ => ⟨by simp, by simp; omega, rfl, rfl, by simp, by simp⟩, fun h => by simp at h⟩
  split
  · next h => exact wordP_adv hp (by rw [h]; rfl)
  split
  · next h => exact wordP_adv hp (by rw [h]; rfl)
  split
  · next h =>
    unfold numP
    split
    · next hd =>
      unfold dateI at hd
      simp at hd
      exact putP_adv (by omega) hd.1
    · have h1 := runI_gt (G := gD) hp (by rw [h]; rfl)
      refine putP_adv ?_ (numQ_le s (by omega)).2
      unfold numQ
      split
      · have := runI_le s gD (p := runI s gD p + 1) (by omega)
        omega
      · exact h1.1
  split
  · unfold quoP
    have h1 := runB_spec s qB (p := p + 1) (by omega)
    split
    · exact ⟨fun _ => ⟨by simp only; omega, by simp only; omega, rfl, rfl, by simp, by simp⟩, fun h => by simp at h⟩
    · exact ⟨fun h => by simp at h, fun _ => by simp⟩
  split
  · unfold remP
    have h1 := runB_spec s nB (p := p + 1) (by omega)
    exact ⟨fun _ => ⟨by simp only; omega, by simp only; omega, rfl, rfl, by simp, by simp⟩, fun h => by simp at h⟩
  · unfold marP
    split
    · next m hm =>
      obtain ⟨h1, h2⟩ := findM_mem hm
      have h3 := marks_sz m h1
      have h4 := begB_le (by omega) h2
      exact ⟨fun _ => ⟨by simp only; omega, by simp only; omega, rfl, rfl, by simp, by simp⟩, fun h => by simp at h⟩
    · exact ⟨fun h => by simp at h, fun _ => by simp⟩
abbrev Lx := List Tk × List ByteArray × Int × Int
/-- All that begins from a place on. -/
def scanL (s : ByteArray) : Nat → Nat → List Tk → List ByteArray → Lx
  | 0, _, T, R => (T, R, 0, s.size)
  | n + 1, p, T, R => if p < s.size then (if (nexP s p T R).1 = true then scanL s n (nexP s p T R).2.1 (nexP s p T R).2.2.1 (nexP s p T R).2.2.2.1 else ([], [], (nexP s p T R).2.2.2.2.1, (nexP s p T R).2.2.2.2.2)) else (T, R, 0, s.size)
def scanF (s : ByteArray) (p : Nat) (T : List Tk) (R : List ByteArray) : Lx := scanL s (s.size - p) p T R
def scanP (s : ByteArray) : Lx := if 65536 < s.size then ([], [], 5, 0) else scanF s 0 [] []
theorem scanL_more (s : ByteArray) : ∀ (n m p : Nat) (T : List Tk) (R : List ByteArray), s.size - p ≤ n → s.size - p ≤ m → scanL s n p T R = scanL s m p T R
  | 0, 0, p, T, R, _, _ => rfl
  | 0, m + 1, p, T, R, h1, h2 => by simp only [scanL]; rw [if_neg (by omega)]
  | n + 1, 0, p, T, R, h1, h2 => by simp only [scanL]; rw [if_neg (by omega)]
  | n + 1, m + 1, p, T, R, h1, h2 => by
    simp only [scanL]
    by_cases hp : p < s.size
    · rw [if_pos hp, if_pos hp]
      by_cases hr : (nexP s p T R).1 = true
      · rw [if_pos hr, if_pos hr]
        have := (nexP_adv T R hp).1 hr
        exact scanL_more s n m _ _ _ (by omega) (by omega)
      · rw [if_neg hr, if_neg hr]
    · rw [if_neg hp, if_neg hp]
theorem scanF_end {s : ByteArray} {p : Nat} {T : List Tk} {R : List ByteArray} (h : ¬ p < s.size) : scanF s p T R = (T, R, 0, (s.size : Int)) := by
  unfold scanF
  rw [show s.size - p = 0 by omega]
  rfl
theorem scanF_go {s : ByteArray} {p : Nat} {T : List Tk} {R : List ByteArray} (h : p < s.size) (hr : (nexP s p T R).1 = true) : scanF s p T R = scanF s (nexP s p T R).2.1 (nexP s p T R).2.2.1 (nexP s p T R).2.2.2.1 := by
  unfold scanF
  have := (nexP_adv T R h).1 hr
  obtain ⟨n, hn⟩ : ∃ n, s.size - p = n + 1 := ⟨s.size - p - 1, by omega⟩
  rw [hn]
  simp only [scanL]
  rw [if_pos h, if_pos hr]
  exact scanL_more s n _ _ _ _ (by omega) (Nat.le_refl _)
theorem scanF_no {s : ByteArray} {p : Nat} {T : List Tk} {R : List ByteArray} (h : p < s.size) (hr : (nexP s p T R).1 = false) : scanF s p T R = ([], [], (nexP s p T R).2.2.2.2.1, (nexP s p T R).2.2.2.2.2) := by
  unfold scanF
  obtain ⟨n, hn⟩ : ∃ n, s.size - p = n + 1 := ⟨s.size - p - 1, by omega⟩
  rw [hn]
  simp only [scanL]
  rw [if_pos h, if_neg (by rw [hr]; simp)]
def ScanQ (w : World) (s : ByteArray) (e : Ending) (w' : World) : Prop := ∃ (g : Nat) (p : Int), e = .returned (.pointer (some ⟨g, 0, none⟩)) ∧ Sc w w' g s p (scanP s).1 (scanP s).2.1 (scanP s).2.2.1 (scanP s).2.2.2
set_option maxHeartbeats 2000000 in
set_option maxRecDepth 100000 in
theorem scan_any (s : ByteArray) (w : World) : Calls Try.prog 32 #[.string s] w (ScanQ w s) := by
  have hnew : ScV w (w.alloc (.cells #[.string s, .int .i64 0, .slice none 0 0, .slice none 0 0, .int .i64 0, .int .i64 0] 92 (0, 0))) w.heap.size s 0 (.slice none 0 0) [] (.slice none 0 0) [] 0 0 :=
    ⟨blk_new w _, Nat.le_refl _, Kd.R_nil _ _ _ _ _, Kd.R_nil _ _ _ _ _, below_alloc (Below.refl _ _) _⟩
  have H := Aside0.mk hnew
  clear hnew
  by_cases hs : 65536 < s.size
  · have t1 : (65536 : Int) < (s.size : Int) := by omega
    have HR : Hid (scanP s = (([], [], 5, 0) : Lx)) := Lib.hid (by unfold scanP; rw [if_pos hs])
    clear hs
    go_enter Try.func32, Try.ntmps32
    go_wp2_with fail
    refine (fail_any (p := 0) 5 0 ⟨_, _, H.out⟩).mono ?_
    rintro e w' ⟨rfl, hE⟩
    go_wp2_with fail
    go_ret
    refine ⟨_, ((0 : Nat) : Int), rfl, ?_⟩
    rw [HR.out]
    exact hE
  · have t1 : ¬ (65536 : Int) < (s.size : Int) := by omega
    have hs' : s.size ≤ 65536 := by omega
    have HR : Hid (scanP s = scanF s 0 [] []) := Lib.hid (by unfold scanP; rw [if_neg hs])
    go_enter Try.func32, Try.ntmps32
    go_wp2_with fail
    go_loopg [24] s.size (fun g _ wr => ∃ (p : Nat) (T : List Tk) (R : List ByteArray), p ≤ s.size ∧ s.size - p ≤ g ∧ T.length ≤ p ∧ R.length ≤ p ∧ Aside0 (Sc w wr w.heap.size s p T R 0 0) ∧ Aside0 (scanF s 0 [] [] = scanF s p T R))
    case atStart => exact ⟨0, [], [], by omega, by omega, by simp, by simp, ⟨_, _, H.out⟩, ⟨rfl⟩⟩
    case round =>
      obtain ⟨p, T, R, hp, hg, hT, hRl, HS, HF⟩ := hrel
      obtain ⟨tv, rv, hsc⟩ := HS.out
      obtain ⟨c0, c1, c2, c3, c4, c5, fz⟩ := hsc.cells
      have f5 := fz 5
      have HE := Aside0.mk (hsc.place (s.size : Int))
      clear hsc fz
      by_cases hlt : p < s.size
      · have i2 : (p : Int) < (s.size : Int) := by omega
        cases gk with
        | zero => omega
        | succ g =>
        have HA := Aside0.mk (nexP_adv (s := s) T R hlt)
        have HN := next_any hs' hlt (by omega) (by omega) HS.out
        have HNX := Aside0.mk HN
        clear HN f5 HE
        rcases hr : (nexP s p T R).1 with _ | _
        · have HF1 := Aside0.mk (HF.out.trans (scanF_no hlt hr))
          have HER := Aside0.mk (HA.out.2 hr)
          have HR1 := Lib.hid hr
          clear hr
          go_wp2_with fail
          refine HNX.out.mono ?_
          rintro e w1 ⟨v, rfl, hb, n, bnd, fr, rfl, hen, hcall⟩
          have HC := Aside0.mk hcall
          clear hcall hb
          go_wp2_with fail
          refine HC.out.mono ?_
          rintro e w2 ⟨rfl, hE⟩
          rw [HR1.out]
          obtain ⟨tv2, rv2, hsc⟩ := hE
          obtain ⟨d0, d1, d2, d3, d4, d5, fz⟩ := hsc.cells
          have f2 := fz 2
          have f3 := fz 3
          have hbb := hsc.blk
          have hne : ((nexP s p T R).2.2.2.2.1 != 0) = true := by simpa using HER.out
          have hne2 : ((nexP s p T R).2.2.2.2.1 == 0) = false := by simpa using HER.out
          have HF2 : Sc w ((w2.setCell ⟨w.heap.size, 2, none⟩ (.slice none 0 0)).setCell ⟨w.heap.size, 3, none⟩ (.slice none 0 0)) w.heap.size s (nexP s p T R).2.1 [] [] (nexP s p T R).2.2.2.2.1 (nexP s p T R).2.2.2.2.2 := by
            refine ⟨.slice none 0 0, .slice none 0 0, ?_, hsc.base, Kd.R_nil _ _ _ _ _, Kd.R_nil _ _ _ _ _, below_set (below_set hsc.below hsc.base) hsc.base⟩
            have := blk_set (blk_set hsc.blk 2 (.slice none 0 0)) 3 (.slice none 0 0)
            simpa using this
          have HF3 := Aside0.mk HF2
          clear HF2 hsc fz hbb
          go_wp2_with fail
          go_ret
          refine ⟨_, ((nexP s p T R).2.1 : Int), rfl, ?_⟩
          rw [HR.out, HF1.out]
          exact HF3.out
        · have HF1 := Aside0.mk (HF.out.trans (scanF_go hlt hr))
          have HER := Aside0.mk (HA.out.1 hr)
          have HR1 := Lib.hid hr
          clear hr
          go_wp2_with fail
          refine HNX.out.mono ?_
          rintro e w1 ⟨v, rfl, hb, n, bnd, fr, rfl, hen, hcall⟩
          have HC := Aside0.mk hcall
          clear hcall hb
          go_wp2_with fail
          refine HC.out.mono ?_
          rintro e w2 ⟨rfl, hE⟩
          rw [HR1.out]
          have HE2 := Aside0.mk hE
          clear hE
          go_wp2_with fail
          obtain ⟨a1, a2, a3, a4, a5, a6⟩ := HER.out
          have HE3 := HE2.out
          rw [a3, a4] at HE3
          go_roundg g
          case measure => omega
          case rel => exact ⟨_, _, _, a2, by omega, by omega, by omega, ⟨HE3⟩, HF1⟩
      · have i2 : ¬ (p : Int) < (s.size : Int) := by omega
        have HF1 := Aside0.mk (HF.out.trans (scanF_end hlt))
        go_wp2_with fail
        go_ret
        refine ⟨_, (p : Int), rfl, ?_⟩
        rw [HR.out, HF1.out]
        exact ⟨_, _, HE.out⟩
theorem tokens_any (s : ByteArray) (w : World) : Calls Try.prog 14 #[.string s] w fun e w' => ∃ v0_ : Value, e = .returned (.tuple #[v0_, .int .i64 (scanP s).2.2.1, .int .i64 (scanP s).2.2.2]) ∧ Kd.R k76 76 w' w.heap.size (fun _ => True) v0_ (scanP s).1 ∧ Below w.heap.size w w' := by
  go_enter Try.func14, Try.ntmps14
  go_wp2_with fail
  refine (scan_any s _).mono ?_
  rintro e w1 ⟨g, p, rfl, tv, rv, h⟩
  have H := Aside0.mk h
  obtain ⟨c0, c1, c2, c3, c4, c5, _⟩ := h.cells
  clear h
  go_wp2_with fail
  go_quiet (fail)
  go_wp2_with fail
  go_ret3
  exact ⟨_, rfl, Kd.R_drewN H.out.tok _, pw_below_drewN H.out.below _⟩
theorem remarks_any (s : ByteArray) (w : World) : Calls Try.prog 16 #[.string s] w fun e w' => ∃ v0_ : Value, e = .returned (.tuple #[v0_, .int .i64 (scanP s).2.2.1, .int .i64 (scanP s).2.2.2]) ∧ Kd.R Kd.string 9 w' w.heap.size (fun _ => True) v0_ (scanP s).2.1 ∧ Below w.heap.size w w' := by
  go_enter Try.func16, Try.ntmps16
  go_wp2_with fail
  refine (scan_any s _).mono ?_
  rintro e w1 ⟨g, p, rfl, tv, rv, h⟩
  have H := Aside0.mk h
  obtain ⟨c0, c1, c2, c3, c4, c5, _⟩ := h.cells
  clear h
  go_wp2_with fail
  go_quiet (fail)
  go_wp2_with fail
  go_ret3
  exact ⟨_, rfl, Kd.R_drewN H.out.rem _, pw_below_drewN H.out.below _⟩
end Go.Proofs.Ytmjneidcdaapdaa.P
