-- Written by lexprint.py, a program of this session's own that runs the kit's print with turned rows. Lean checks it.
import Derived.Test.YtpcaonkahhbgfaaPx0
import Derived.Test.YtpcaonkahhbgfaaPx6
namespace Go.Proofs.Ytpcaonkahhbgfaa.P
open Go.RowKit Go.Proofs.YtpcaonkahhbgfaaW.PrintWords Go.Proofs.YtpcaonkahhbgfaaW.PrintLast Go.Proofs.YtpcaonkahhbgfaaW.PrintMore
attribute [local go_sem] max2_int min2_int max_two min_two
set_option linter.unusedVariables false
set_option linter.unusedSimpArgs false

/-! ### theory_reader_list: function 40 -/
/-- Rising numbers, so many, from least on, below n. -/
def lisT (l : List Int) (n er : Int) : Nat → Int → Int → Except (Int × Int) (List Int × Int)
  | 0, p, _ => .ok ([], p)
  | d + 1, p, least => match numT l p least (wrap64 (n - 1)) er with
    | .error z => .error z
    | .ok (x, q) => match lisT l n er d q (wrap64 (x + 1)) with
      | .error z => .error z
      | .ok (xs, q') => .ok (x :: xs, q')
def listT (l : List Int) (p most least n er : Int) : Except (Int × Int) (List Int × Int) :=
  match numT l p 0 most 3 with
  | .error z => .error z
  | .ok (c, q) => lisT l n er c.toNat q least
def preL (acc : List Int) : Except (Int × Int) (List Int × Int) → Except (Int × Int) (List Int × Int)
  | .error z => .error z
  | .ok (xs, q) => .ok (acc ++ xs, q)
theorem preL_snoc (acc : List Int) (x : Int) (e : Except (Int × Int) (List Int × Int)) : preL (acc ++ [x]) e = preL acc (match e with | .error z => .error z | .ok (xs, q) => .ok (x :: xs, q)) := by
  cases e with
  | error z => rfl
  | ok y => simp [preL]
structure LsSt (w0 w W : World) (g : Nat) (l : List Int) (p : Int) : Prop where
  I : WrIs w0 W g l p
  B : Below w0.heap.size w0 W
  K : KeepBut w W g none
  lt : g < w.heap.size
  sz : w.heap.size ≤ W.heap.size
def LPost (w0 w : World) (g : Nat) (l : List Int) : Except (Int × Int) (List Int × Int) → Ending → World → Prop
  | .ok (xs, q), e, w' => ∃ v, e = .returned v ∧ Kd.R (Kd.int .i64) 3 w' w.heap.size (fun _ => True) v xs ∧ WrIs w0 w' g l q ∧ Below w0.heap.size w0 w' ∧ KeepBut w w' g none
  | .error (er, q), e, w' => FPost w0 w g er q e w'
theorem LsSt.grown {w0 w W W1 : World} {g : Nat} {l : List Int} {p : Int} {row : Option Nat} (h : LsSt w0 w W g l p) (hg : W.grownBy W1 row) (hr : ∀ k, row = some k → w.heap.size ≤ k) (hs0 : w0.heap.size ≤ w.heap.size) : LsSt w0 w W1 g l p := by
  have hlt := h.lt
  have ne : ∀ k, k < w.heap.size → some k ≠ row := fun k hk e => by have := hr k e.symm; omega
  obtain ⟨A, c, hb, hg', h'⟩ := h.I
  have hsz : w0.heap.size ≤ W.heap.size := h.B.size
  exact ⟨⟨A, c, blk_grown hb hg (ne g hlt), hg', h'⟩, h.B.grown hg hsz (fun k hk => by have := hr k hk; omega), ⟨Nat.le_trans h.K.1 hg.size, fun i hi hig _ => (hg.block i (Nat.lt_of_lt_of_le hi h.K.1) (ne i hi)).trans (h.K.2 i hi hig (by simp))⟩, hlt, Nat.le_trans h.sz hg.size⟩
theorem LsSt.call {w0 w W W1 : World} {g : Nat} {l : List Int} {p q : Int} (h : LsSt w0 w W g l p) (hI : WrIs w0 W1 g l q) (hB : Below w0.heap.size w0 W1) (hK : KeepBut W W1 g none) : LsSt w0 w W1 g l q :=
  ⟨hI, hB, h.K.trans hK (.inl rfl), h.lt, Nat.le_trans h.sz hK.1⟩
set_option maxHeartbeats 4000000 in
theorem listT_calls (g : Nat) (l : List Int) (p most least n er : Int) (w0 w : World) (hI : WrIs w0 w g l p) (hB : Below w0.heap.size w0 w) (hby : Bytes l) (hm : most ≤ 1000000) :
    Calls Try.prog 40 #[.pointer (some ⟨g, 0, none⟩), .int .i64 most, .int .i64 least, .int .i64 n, .int .i64 er] w (LPost w0 w g l (listT l p most least n er)) := by
  have HBY := Aside0.mk hby
  obtain ⟨z, hz⟩ : ∃ z, z = numT l p 0 most 3 := ⟨_, rfl⟩
  unfold listT
  rw [← hz]
  have HI := Aside0.mk hI
  have HB := Aside0.mk hB
  cases z with
  | error y =>
    obtain ⟨e', q⟩ := y
    have HN := Aside0.mk (numT_bad g l p 0 most 3 e' q w0 w hI hB hby hz.symm)
    clear hz hI hB hby
    go_enter Try.func40, Try.ntmps40
    go_wp2_with fail
    refine HN.out.mono ?_
    rintro e w1 ⟨he, hb, hk⟩
    unfold wrFlt at he
    subst he
    go_wp2_with fail
    exact ⟨rfl, rfl, hb, hk⟩
  | ok y =>
    obtain ⟨c, q⟩ := y
    have hc : 0 ≤ c ∧ c ≤ 1000000 := by
      have h := hz.symm
      unfold numT at h
      simp only at h
      by_cases e0 : (ru l p).2.2 ≠ 0
      · rw [if_pos e0] at h; cases h
      rw [if_neg e0] at h
      by_cases e1 : (ru l p).1 < IntKind.u64.wrap 0
      · rw [if_pos e1] at h; cases h
      rw [if_neg e1] at h
      by_cases e2 : IntKind.u64.wrap most < (ru l p).1
      · rw [if_pos e2] at h; cases h
      rw [if_neg e2] at h
      by_cases e3 : most < 0
      · rw [if_pos e3] at h; cases h
      rw [if_neg e3] at h
      simp only [Except.ok.injEq, Prod.mk.injEq] at h
      obtain ⟨rfl, rfl⟩ := h
      rw [IntKind.wrap_u64] at e1 e2
      unfold wrap64
      omega
    have HN := Aside0.mk (numT_ok g l p 0 most 3 c q w0 w hI hB hby hz.symm)
    have hlt : g < w.heap.size := by obtain ⟨A, cc, hb, _⟩ := hI; exact blk_lt hb
    have hs0 := hB.size
    have HS0 := Aside0.mk hs0
    obtain ⟨m, rfl⟩ := Int.eq_ofNat_of_zero_le hc.1
    clear hz hI hB hby hs0
    go_enter Try.func40, Try.ntmps40
    go_wp2_with fail
    refine HN.out.mono ?_
    rintro e w1 ⟨rfl, hI1, hB1, hK1⟩
    have S1 := Aside0.mk (show LsSt w0 w w1 g l q from ⟨hI1, hB1, hK1, hlt, hK1.1⟩)
    clear hI1 hB1 hK1 HN
    go_wp2_with fail
    go_loopw [2, 11, 16] (fun v2 v11 v16 wr => ∃ (j : Nat) (ls pj : Int) (acc : List Int), v2 = .int .i64 ls ∧ v16 = .int .i64 j ∧ j ≤ m ∧ Aside0 (acc.length = j) ∧ Aside0 (lisT l n er m q least = preL acc (lisT l n er (m - j) pj ls)) ∧ Aside0 (LsSt w0 w wr g l pj) ∧ Aside0 (Kd.R (Kd.int .i64) 3 wr w.heap.size (fun k => w.heap.size ≤ k) v11 acc)) (fun _ _ v16 _ => m - (intOf v16).toNat)
    case atStart => exact ⟨0, least, q, [], rfl, rfl, Nat.zero_le _, ⟨rfl⟩, ⟨by rw [Nat.sub_zero]; cases lisT l n er m q least <;> simp [preL]⟩, S1, ⟨Kd.R_nil _ _ _ _ _⟩⟩
    case round =>
      clear S1
      obtain ⟨j, ls, pj, acc, rfl, rfl, hj, hal, HE, HS, HR⟩ := hrel
      by_cases hjm : j < m
      · obtain ⟨d, hd⟩ : ∃ d, m - j = d + 1 := ⟨m - j - 1, by omega⟩
        obtain ⟨z, hz⟩ : ∃ z, z = numT l pj ls (wrap64 (n - 1)) er := ⟨_, rfl⟩
        have he := HE.out
        rw [hd] at he
        simp only [lisT] at he
        rw [← hz] at he
        cases z with
        | error y =>
          obtain ⟨e', q'⟩ := y
          simp only [preL] at he
          have HN := Aside0.mk (numT_bad g l pj ls (wrap64 (n - 1)) er e' q' w0 wr HS.out.I HS.out.B HBY.out hz.symm)
          have HE2 := Aside0.mk he
          have HK := Aside0.mk HS.out.K
          clear hz he HE
          go_wp2_with fail
          refine HN.out.mono ?_
          rintro e w2 ⟨he, hb, hk⟩
          unfold wrFlt at he
          subst he
          go_wp2_with fail
          refine ⟨rfl, ?_⟩
          show LPost w0 w g l (lisT l n er ((m : Nat) : Int).toNat q least) _ _
          rw [Int.toNat_natCast, HE2.out]
          exact ⟨rfl, hb, HK.out.trans hk (.inl rfl)⟩
        | ok y =>
          obtain ⟨x, q'⟩ := y
          simp only at he
          have HN := Aside0.mk (numT_ok g l pj ls (wrap64 (n - 1)) er x q' w0 wr HS.out.I HS.out.B HBY.out hz.symm)
          have HE2 := Aside0.mk (he.trans (preL_snoc acc x _).symm)
          clear hz he HE
          go_wp2_with fail
          refine HN.out.mono ?_
          rintro e w2 ⟨rfl, hI2, hB2, hK2⟩
          have S2 := Aside0.mk (HS.out.call hI2 hB2 hK2)
          have R2 := Aside0.mk (Kd.R_keep HR.out hK2 (fun k hk => by omega))
          clear hI2 hB2 hK2 HS HR HN
          obtain ⟨As, cs, eS⟩ := Kd.R_slice R2.out
          subst eS
          have hbs := S2.out.sz
          go_wp2_with (at_builtin; refine Kd.R_append (Kd.int .i64) (w0 := w2) w.heap.size rfl (.tmp 24) (.tmp 26) 26 3 (.int .i64 0) 8 rfl Try.underlying26 info3 rfl (by decide) (by omega) (.slice As acc.length cs) acc x [.int .i64 x] (fun k => w.heap.size ≤ k) (fun _ => False) rfl rfl rfl (fun _ h => h.elim) (fun k hk => by omega) R2.out (Below.refl _ _) hbs (by have := hal.out; omega) ?_; intro v1 w3 hR hB hg hat; have HR3 := Aside0.mk hR; have HS3 := Aside0.mk (S2.out.grown hg (fun k hk => R2.out.1 k hk) HS0.out); clear hR hB hg hat)
          go_roundw
          case rel => exact ⟨j + 1, wrap64 (x + 1), q', acc ++ [x], rfl, by go_num, by omega, ⟨by have := hal.out; simp; omega⟩, ⟨by rw [HE2.out, show m - (j + 1) = d by omega]⟩, HS3, HR3⟩
          case measure => simp [intOf]; omega
      · have he := HE.out
        rw [show m - j = 0 by omega] at he
        simp only [lisT, preL, List.append_nil] at he
        have HE2 := Aside0.mk he
        clear he HE
        go_wp2_with fail
        go_ret
        show LPost w0 w g l (lisT l n er ((m : Nat) : Int).toNat q least) _ _
        rw [Int.toNat_natCast, HE2.out]
        exact ⟨_, rfl, Kd.R_mono HR.out (fun _ _ => trivial), HS.out.I, HS.out.B, HS.out.K⟩


end Go.Proofs.Ytpcaonkahhbgfaa.P
