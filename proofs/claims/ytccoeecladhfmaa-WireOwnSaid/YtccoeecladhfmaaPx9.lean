-- Written by lexprint.py, a program of this session's own that runs the kit's print with turned rows. Lean checks it.
import Derived.Test.YtccoeecladhfmaaPx0
import Derived.Test.YtccoeecladhfmaaPx2
import Derived.Test.YtccoeecladhfmaaPx3
import Derived.Test.YtccoeecladhfmaaPx4
import Derived.Test.YtccoeecladhfmaaPx5
import Derived.Test.YtccoeecladhfmaaPx6
import Derived.Test.YtccoeecladhfmaaPx7
import Derived.Test.YtccoeecladhfmaaPx8
namespace Go.Proofs.Ytccoeecladhfmaa.P
open Go.RowKit Go.Proofs.YtccoeecladhfmaaW.PrintWords Go.Proofs.YtccoeecladhfmaaW.PrintLast Go.Proofs.YtccoeecladhfmaaW.PrintMore
attribute [local go_sem] max2_int min2_int max_two min_two max_three min_three max_four min_four   -- for this text's walks alone
set_option linter.unusedVariables false
set_option linter.unusedSimpArgs false

/-! ### wire_reader_steps: function 31 -/
def wrHd (i : Nat) : Int := bt ⟨#[108, 120, 100, 1]⟩ (i : Int)
/-- The head's bytes from the i-th on. -/
def headF (l : List Int) : Nat → Nat → Except (Int × Int) Unit
  | 0, _ => .ok ()
  | n + 1, i => do
    let _ ← byteF l i (wrHd i) (wrHd i)
    headF l n (i + 1)
theorem headF_bad {l : List Int} {n i : Nat} {e : Int × Int} (h : byteF l i (wrHd i) (wrHd i) = .error e) : headF l (n + 1) i = .error e := by simp [headF, h, bind, Except.bind]
theorem headF_ok {l : List Int} {n i : Nat} {c : Int} (h : byteF l i (wrHd i) (wrHd i) = .ok c) : headF l (n + 1) i = headF l n (i + 1) := by simp [headF, h, bind, Except.bind]
def listF (l : List Int) : Nat → Int → Except (Int × Int) (List S52 × Int)
  | 0, p => .ok ([], p)
  | n + 1, p => do
    let (s, p1) ← stepF l p
    let (ss, q) ← listF l n p1
    return (s :: ss, q)
def sumF (l : List Int) : Nat → Int → Except (Int × Int) (List Int)
  | 0, _ => .ok []
  | n + 1, p => do
    let c ← byteF l p 0 255
    let cs ← sumF l n (p + 1)
    return c :: cs
def sum4 (l : List Int) (q : Int) : List Int := (List.range 4).map (lit4 (crcL (l.take q.toNat)))
def stepsF (l : List Int) : Except (Int × Int) (List S52) := do
  headF l 4 0
  let (n, p) ← numF l 4 65536
  let (ss, q) ← listF l n.toNat p
  let cs ← sumF l 4 q
  if cs ≠ sum4 l q then .error (13, q) else if q + 4 < l.length then .error (9, q + 4) else return ss
def preS (acc : List Int) : Except (Int × Int) (List Int) → Except (Int × Int) (List Int)
  | .ok cs => .ok (acc ++ cs)
  | .error e => .error e
theorem preS_nil (x : Except (Int × Int) (List Int)) : preS [] x = x := by rcases x with e | cs <;> rfl
theorem preS_snoc (acc : List Int) (x : Int) (y : Except (Int × Int) (List Int)) : preS (acc ++ [x]) y = preS acc (preS [x] y) := by rcases y with e | cs <;> simp [preS]
theorem sumF_succ {l : List Int} {n : Nat} {p c : Int} (h1 : byteF l p 0 255 = .ok c) : sumF l (n + 1) p = preS [c] (sumF l n (p + 1)) := by
  simp only [sumF, h1, bind, Except.bind]
  rcases sumF l n (p + 1) with e | cs <;> rfl
theorem sumF_bad {l : List Int} {n : Nat} {p : Int} {e : Int × Int} (h1 : byteF l p 0 255 = .error e) : sumF l (n + 1) p = .error e := by simp [sumF, h1, bind, Except.bind]
def srow (cs : List Int) : Array Value := #[.int .u8 (cs.getD 0 0), .int .u8 (cs.getD 1 0), .int .u8 (cs.getD 2 0), .int .u8 (cs.getD 3 0)]
theorem srow_snoc (cs : List Int) (v : Int) (h : cs.length < 4) : (srow cs).setIfInBounds cs.length (.int .u8 v) = srow (cs ++ [v]) := by
  match cs, h with
  | [], _ => rfl
  | [a], _ => rfl
  | [a, b], _ => rfl
  | [a, b, c], _ => rfl
/-- The walk's state in steps. -/
structure WrSq (w0 w W : World) (g : Nat) (l : List Int) (p : Int) : Prop where
  I : WrIs w0 W g l p
  B : Below w0.heap.size w0 W
  K : KeepBut w W g none
  lt : g < w.heap.size
theorem WrSq.call {w0 w W W1 : World} {g : Nat} {l : List Int} {p q : Int} (h : WrSq w0 w W g l p) (hI : WrIs w0 W1 g l q) (hB : Below w0.heap.size w0 W1) (hK : KeepBut W W1 g none) : WrSq w0 w W1 g l q :=
  ⟨hI, hB, h.K.trans hK (.inl rfl), h.lt⟩
theorem WrSq.below {w0 w W W1 : World} {g : Nat} {l : List Int} {p : Int} (h : WrSq w0 w W g l p) (hb : Below W.heap.size W W1) : WrSq w0 w W1 g l p :=
  ⟨h.I.below hb, below_step h.B hb, h.K.trans (KeepBut.of_below hb g none) (.inl rfl), h.lt⟩
theorem WrSq.far {w0 w W : World} {g : Nat} {l : List Int} {p : Int} (h : WrSq w0 w W g l p) {a : Addr} (ha : w.heap.size ≤ a.block) (u : Value) : WrSq w0 w (W.setCell a u) g l p := by
  have hlt := h.lt
  have hg : w0.heap.size ≤ g := by obtain ⟨_, _, _, hg, _⟩ := h.I; exact hg
  exact ⟨h.I.far (by omega) _, h.B.setCell (by omega) _, keep_far h.K ha _, hlt⟩
theorem WrSq.grown {w0 w W W1 : World} {g : Nat} {l : List Int} {p : Int} {row : Option Nat} (h : WrSq w0 w W g l p) (hg : W.grownBy W1 row) (hr : ∀ k, row = some k → w.heap.size ≤ k) : WrSq w0 w W1 g l p := by
  have hlt := h.lt
  have ne : ∀ k, k < w.heap.size → some k ≠ row := fun k hk e => by have := hr k e.symm; omega
  obtain ⟨A, c, hb, hg', h'⟩ := h.I
  exact ⟨⟨A, c, blk_grown hb hg (ne g hlt), hg', h'⟩, h.B.grown hg h.B.size (fun k hk => by have := hr k hk; omega), ⟨Nat.le_trans h.K.1 hg.size, fun i hi hig _ => (hg.block i (Nat.lt_of_lt_of_le hi h.K.1) (ne i hi)).trans (h.K.2 i hi hig (by simp))⟩, hlt⟩
def SSPost (w0 w : World) (g : Nat) (l : List Int) : Except (Int × Int) (List S52) → Ending → World → Prop
  | .error (er, q), e, w' => FPost w0 w g er q e w'
  | .ok ss, e, w' => ∃ v, e = .returned v ∧ Kd.S k52 52 w' w.heap.size (fun _ => True) v ss ∧ Below w0.heap.size w0 w' ∧ KeepBut w w' g none
def preL (acc : List S52) : Except (Int × Int) (List S52 × Int) → Except (Int × Int) (List S52 × Int)
  | .ok (cs, q) => .ok (acc ++ cs, q)
  | .error e => .error e
theorem preL_nil (x : Except (Int × Int) (List S52 × Int)) : preL [] x = x := by rcases x with e | ⟨cs, q⟩ <;> rfl
theorem preL_snoc (acc : List S52) (x : S52) (y : Except (Int × Int) (List S52 × Int)) : preL (acc ++ [x]) y = preL acc (preL [x] y) := by rcases y with e | ⟨cs, q⟩ <;> simp [preL]
theorem listF_succ {l : List Int} {n : Nat} {p p1 : Int} {s : S52} (h1 : stepF l p = .ok (s, p1)) : listF l (n + 1) p = preL [s] (listF l n p1) := by
  simp only [listF, h1, bind, Except.bind]
  rcases listF l n p1 with e | ⟨cs, q⟩ <;> rfl
theorem choF_fits {l : List Int} : ∀ {n : Nat} {p q : Int} {cs : List S54}, choF l n p = .ok (cs, q) → p ≤ l.length → p ≤ q ∧ q ≤ l.length := by
  intro n
  induction n with
  | zero => intro p q cs h hp; simp only [choF, Except.ok.injEq, Prod.mk.injEq] at h; omega
  | succ n ih =>
    intro p q cs h hp
    rcases h1 : numF l p 16 with e | ⟨a, p1⟩
    · simp [choF, h1, bind, Except.bind] at h
    rcases h2 : numF l p1 4096 with e | ⟨b, p2⟩
    · simp [choF, h1, h2, bind, Except.bind] at h
    rw [choF_succ h1 h2] at h
    rcases h3 : choF l n p2 with e | ⟨ds, r⟩
    · simp [h3, preC] at h
    rw [h3] at h
    simp only [preC, Except.ok.injEq, Prod.mk.injEq] at h
    have f1 := numF_fits (by omega) (by omega) h1
    have f2 := numF_fits (by omega) (by omega) h2
    have f3 := ih h3 (by omega)
    omega
theorem stepF_fits {l : List Int} {p q : Int} {s : S52} (h : stepF l p = .ok (s, q)) (h0 : 0 ≤ p) (h1 : p ≤ l.length) : 0 ≤ q ∧ q ≤ l.length := by
  unfold stepF at h
  rcases e1 : byteF l p 1 4 with e | tag
  · simp [e1, bind, Except.bind] at h
  rcases e2 : numF l (p + 1) 4095 with e | ⟨a, p2⟩
  · simp [e1, e2, bind, Except.bind] at h
  rcases e3 : byteF l p2 1 5 with e | how
  · simp [e1, e2, e3, bind, Except.bind] at h
  rcases e4 : numF l (p2 + 1) 4096 with e | ⟨r, p3⟩
  · simp [e1, e2, e3, e4, bind, Except.bind] at h
  rcases e5 : numF l p3 4096 with e | ⟨n, p4⟩
  · simp [e1, e2, e3, e4, e5, bind, Except.bind] at h
  rcases e6 : choF l n.toNat p4 with e | ⟨cs, p5⟩
  · simp [e1, e2, e3, e4, e5, e6, bind, Except.bind] at h
  simp only [e1, e2, e3, e4, e5, e6, bind, Except.bind, pure, Except.pure, Except.ok.injEq, Prod.mk.injEq] at h
  have f5 := numF_fits (by omega) (by omega) e5
  have f6 := choF_fits e6 (by omega)
  omega
theorem crcL_fits (l : List Int) : 0 ≤ crcL l ∧ crcL l < 4294967296 := by
  unfold crcL
  simp only [Go.bits]
  rw [IntKind.wrap_u32]
  omega
set_option maxHeartbeats 4000000 in
theorem steps_any (g : Nat) (l : List Int) (w0 w : World) (hI : WrIs w0 w g l 0) (hB : Below w0.heap.size w0 w) (hby : Bytes l) :
    Calls Try.prog 31 #[.pointer (some ⟨g, 0, none⟩)] w (SSPost w0 w g l (stepsF l)) := by
  have HS := Aside0.mk (WrSq.mk (w := w) hI hB (KeepBut.refl _ _ _) hI.lt)
  clear hI hB
  go_enter Try.func31, Try.ntmps31
  go_wp2_with fail
  go_loopw [8] (fun v8 wr => ∃ i : Nat, i ≤ 4 ∧ v8 = .int .i64 i ∧ Aside0 (WrSq w0 w wr g l i) ∧ (i : Int) ≤ l.length ∧ Aside0 (headF l 4 0 = headF l (4 - i) i)) (fun v8 _ => 4 - (intOf v8).toNat)
  case atStart => exact ⟨0, by omega, rfl, HS, by omega, ⟨rfl⟩⟩
  case round =>
    clear HS
    obtain ⟨i, hi, rfl, HS, hil, HH⟩ := hrel
    by_cases hlt : i < 4
    · obtain ⟨k, hk⟩ : ∃ k, 4 - i = k + 1 := ⟨4 - i - 1, by omega⟩
      have hkk : k = 3 - i := by omega
      subst hkk
      have HK := Lib.hid hk
      clear hk
      have h0 : (0 : Int) ≤ i := by omega
      have p0 : (0 ≤ (i : Int)) = True := eq_true h0
      have p1 : ((i : Int) < 4) = True := eq_true (by omega)
      have hxi : (((⟨#[108, 120, 100, 1]⟩ : ByteArray)[i]'(by show i < 4; exact hlt)).toNat : Int) = bt ⟨#[108, 120, 100, 1]⟩ (i : Int) := bt_at (⟨#[108, 120, 100, 1]⟩ : ByteArray) (i : Int) (show (i : Int).toNat < (⟨#[108, 120, 100, 1]⟩ : ByteArray).size from (show (i : Int).toNat < 4 by omega))
      have HH' := HH.out
      rw [HK.out] at HH'
      go_wp2_with fail
      go_still_tail 5, (by kernel_rfl)
      change wpList _ _ _ _ _ wr.drew
      go_wp2_with fail
      have HS' := Aside0.mk (show WrSq w0 w wr.drew g l i from HS.out.below (below_drew (Below.refl _ _)))
      clear HS
      rcases hx : byteF l i (wrHd i) (wrHd i) with ⟨er, q⟩ | c
      · refine (byte_bad g l i (wrHd i) (wrHd i) er q w0 _ HS'.out.I HS'.out.B h0 hil hx).mono ?_
        rintro e w1 ⟨rfl, hB1, hK1⟩
        rw [headF_bad hx] at HH'
        have hfin : stepsF l = .error (er, q) := by simp [stepsF, HH', bind, Except.bind]
        have FE := Lib.hid hfin
        unfold wrFlt
        clear hx hfin HH'
        go_wp2
        rw [FE.out]
        exact ⟨rfl, rfl, hB1, HS'.out.K.trans hK1 (.inl rfl)⟩
      refine (byte_ok g l i (wrHd i) (wrHd i) c w0 _ HS'.out.I HS'.out.B h0 hil hx).mono ?_
      rintro e w1 ⟨rfl, hI1, hB1, hK1⟩
      obtain ⟨fa, fb, fc⟩ := byteF_fits h0 hil hx
      have S1 := Aside0.mk (HS'.out.call hI1 hB1 hK1)
      rw [headF_ok hx] at HH'
      have HH1 := Aside0.mk HH'
      clear hI1 hB1 hK1 hx HH'
      go_wp2
      go_roundw
      case rel => exact ⟨i + 1, by omega, by go_num, ⟨by have := S1.out; rwa [show (i : Int) + 1 = ((i + 1 : Nat) : Int) by omega] at this⟩, by omega, ⟨by rw [HH1.out, show 4 - (i + 1) = 3 - i by omega]⟩⟩
      case measure => simp [intOf]; omega
    · obtain rfl : i = 4 := by omega
      have hh : headF l 4 0 = .ok () := HH.out
      have HH4 := Lib.hid hh
      clear hh HH
      go_wp2_with fail
      rcases hx : numF l 4 65536 with ⟨er, q⟩ | ⟨n, p⟩
      · refine (num_bad g l 4 65536 er q w0 _ HS.out.I HS.out.B hby hx).mono ?_
        rintro e w1 ⟨rfl, hB1, hK1⟩
        have FE := Lib.hid (show stepsF l = .error (er, q) by simp [stepsF, HH4.out, hx, bind, Except.bind])
        unfold wrFlt
        clear hx
        go_wp2
        rw [FE.out]
        exact ⟨rfl, rfl, hB1, HS.out.K.trans hK1 (.inl rfl)⟩
      refine (num_ok g l 4 65536 n p w0 _ HS.out.I HS.out.B hby hx).mono ?_
      rintro e w1 ⟨rfl, hI1, hB1, hK1⟩
      have S1 := Aside0.mk (HS.out.call hI1 hB1 hK1)
      obtain ⟨fa, fb, fc, fd, fe⟩ := numF_fits (by omega) (by omega) hx
      obtain ⟨m, rfl⟩ := Int.eq_ofNat_of_zero_le fd
      have HX := Lib.hid hx
      clear hI1 hB1 hK1 hx HS
      go_wp2_with fail
      go_loopw [4, 20] (fun v4 v20 wr => ∃ (i : Nat) (pi : Int) (acc : List S52), i ≤ m ∧ v20 = .int .i64 i ∧ Aside0 (listF l m p = preL acc (listF l (m - i) pi)) ∧ Aside0 (acc.length = i) ∧ Aside0 (WrSq w0 w wr g l pi) ∧ Aside0 (Kd.S k52 52 wr w.heap.size (fun k => k ≠ g) v4 acc) ∧ 0 ≤ pi ∧ pi ≤ l.length) (fun _ v20 _ => m - (intOf v20).toNat)
      case atStart => exact ⟨0, p, [], by omega, rfl, ⟨by rw [Nat.sub_zero]; exact (preL_nil _).symm⟩, ⟨rfl⟩, S1, ⟨Kd.S_nil _ _ _ _ _⟩, by omega, by omega⟩
      case round =>
        clear S1
        obtain ⟨i, pi, acc, him, rfl, HC, HL, HS, HO, g0, g1⟩ := hrel
        by_cases hlt2 : i < m
        · obtain ⟨k, hk⟩ : ∃ k, m - i = k + 1 := ⟨m - i - 1, by omega⟩
          have HK := Lib.hid hk
          clear hk
          have e1 := HC.out
          rw [HK.out] at e1
          have E1 := Lib.hid e1
          clear e1 HC
          go_wp2_with fail
          refine (step_any g l pi w0 _ HS.out.I HS.out.B hby g0 g1).mono ?_
          rcases hy : stepF l pi with ⟨er, q⟩ | ⟨s, p1⟩
          · rintro e w2 ⟨rfl, hB1, hK1⟩
            have FE := Lib.hid (show stepsF l = .error (er, q) by
              have := E1.out
              simp only [listF, hy, bind, Except.bind, preL] at this
              simp [stepsF, HH4.out, HX.out, bind, Except.bind, this])
            unfold wrFlt
            clear hy
            go_wp2
            rw [FE.out]
            exact ⟨rfl, rfl, hB1, HS.out.K.trans hK1 (.inl rfl)⟩
          · rintro e w2 ⟨vc, rfl, hR, hI1, hB1, hK1⟩
            obtain ⟨Ac, cc, ec⟩ := Kd.R_slice hR
            subst ec
            obtain ⟨gp0, gp1⟩ := stepF_fits hy g0 g1
            have hsz := HS.out.K.1
            have hltg := HS.out.lt
            have S2 := Aside0.mk (HS.out.call hI1 hB1 hK1)
            have O2 := Aside0.mk (Kd.S_mono (Kd.S_oldK (ok := fun k => k ≠ g) (Kd.S_mono HO.out (fun k h => ⟨h, h⟩)) hK1) (ok' := fun k => k ≠ g ∧ ¬ wr.heap.size ≤ k) (fun k h => ⟨h.1, by omega⟩))
            have R2 := Aside0.mk (Kd.R_lower (Kd.R_mono (Kd.R_bound hR) (ok' := fun k => wr.heap.size ≤ k) (fun k h => h.2.1)) hsz)
            have L2 := Aside0.mk (show ∀ k, wr.heap.size ≤ k → k ≠ g ∧ some k ≠ u4.ownBlock from fun k hk => ⟨by omega, fun e => by have := Kd.S_lt HO.out k e.symm; omega⟩)
            have Z2 := Aside0.mk (show wr.heap.size ≤ w2.heap.size from hK1.1)
            have B2 := Aside0.mk (Kd.S_base HO.out)
            have HY := Lib.hid hy
            clear hR hI1 hB1 hK1 HS HO hy
            go_wp2_with ((with_reducible refine gate_builtin (b := .append) (xs := #[.tmp 22, .tmp 25]) rfl ?_); at_builtin; refine Kd.S_append k52 (w0 := w2) w.heap.size rfl (.tmp 22) (.tmp 25) 22 52 (.agg #[(.int .i64 0), (.int .i64 0), (.int .i64 0), (.int .i64 0), (.slice none 0 0)]) 56 rfl Try.underlying22 info52 rfl (by decide) (by omega) u4 acc s [.int .i64 s.f0, .int .i64 s.f1, .int .i64 s.f2, .int .i64 s.f3, .slice Ac s.f4.length cc] (fun k => k ≠ g) (fun k => wr.heap.size ≤ k) rfl rfl ?aP L2.out ?aF ?aO ?aB ?aS ?aL ?_; (case aP => exact k52_mkM _ _ _ s R2.out); (case aF => exact fun k hk => by have := Z2.out; omega); (case aO => exact O2.out); (case aB => exact Below.refl _ _); (case aS => have := Z2.out; omega); (case aL => rw [HL.out]; omega); intro v1 w8 hR1 hB1 hg1 hat1; obtain ⟨Ao, co, eo⟩ := Kd.R_slice (Kd.S_R hR1); subst eo; have S8 := Aside0.mk (S2.out.grown hg1 B2.out); have R8 := Aside0.mk hR1; clear hR1 hB1 hg1 hat1)
            have e8 : (acc ++ [s]).length = acc.length + 1 := by simp
            have R9 := R8.out
            rw [e8] at R9
            have hki : m - (i + 1) = k := by have := HK.out; omega
            refine ⟨⟨i + 1, p1, acc ++ [s], by omega, rfl, ⟨?_⟩, ⟨by rw [e8, HL.out]⟩, S8, ⟨R9⟩, gp0, gp1⟩, by simp [intOf]; omega⟩
            rw [E1.out, hki, preL_snoc, listF_succ HY.out]
        · obtain rfl : i = m := by omega
          have hl : listF l i p = .ok (acc, pi) := by have := HC.out; rw [Nat.sub_self] at this; simpa [listF, preL] using this
          have HLs := Lib.hid hl
          clear hl HC
          obtain ⟨A, c, hb, hg, hC, hcc⟩ := HS.out.I
          have c1 : wr.cell? ⟨g, 1, none⟩ = some (.int .i64 pi) := (blk_cell hb 1).trans rfl
          have hmax : (l.length : Int) ≤ 9223372036854775807 := by have := hC.2.1; omega
          have S3 := Aside0.mk (HS.out.below (below_alloc (Below.refl _ _) (.cells #[.int .u8 0, .int .u8 0, .int .u8 0, .int .u8 0] 60 (0, 0))))
          have O3 := Aside0.mk (Kd.S_alloc (Kd.S_elderB HO.out wr.heap.size (Nat.le_refl _)) (.cells #[.int .u8 0, .int .u8 0, .int .u8 0, .int .u8 0] 60 (0, 0)))
          have b3 := Aside0.mk (blk_new wr (.cells #[.int .u8 0, .int .u8 0, .int .u8 0, .int .u8 0] 60 (0, 0)))
          have z3 := Aside0.mk (show w.heap.size ≤ wr.heap.size from HS.out.K.1)
          have hltg := HS.out.lt
          clear hb hg hC hcc
          go_wp2_with fail
          clear c1
          obtain ⟨wx, rfl⟩ : ∃ wx : World, wx = wr := ⟨_, rfl⟩
          go_loopw [32] (fun v32 wr => ∃ (j : Nat) (cs : List Int), j ≤ 4 ∧ v32 = .int .i64 j ∧ Aside0 (sumF l 4 pi = preS cs (sumF l (4 - j) (pi + j))) ∧ Aside0 (cs.length = j) ∧ Aside0 (WrSq w0 w wr g l (pi + j)) ∧ Aside0 (wr.heap[wx.heap.size]? = some (.cells (srow cs) 60 (0, 0))) ∧ Aside0 (Kd.S k52 52 wr w.heap.size (fun k => k ≠ g ∧ k ≠ wx.heap.size) u4 acc) ∧ pi + j ≤ l.length) (fun v32 _ => 4 - (intOf v32).toNat)
          case atStart => exact ⟨0, [], by omega, rfl, ⟨by rw [Nat.sub_zero, Int.natCast_zero, Int.add_zero]; exact (preS_nil _).symm⟩, ⟨rfl⟩, ⟨by rw [Int.natCast_zero, Int.add_zero]; exact S3.out⟩, b3, O3, by omega⟩
          case round =>
            clear S3 O3 b3 HS HO
            obtain ⟨j, cs, hj, rfl, HC, HCL, HS, HB3, HO, g2⟩ := hrel
            by_cases hlt3 : j < 4
            · obtain ⟨k, hk⟩ : ∃ k, 4 - j = k + 1 := ⟨4 - j - 1, by omega⟩
              have HK := Lib.hid hk
              clear hk
              have e1 := HC.out
              rw [HK.out] at e1
              have E1 := Lib.hid e1
              clear e1 HC
              go_wp2_with fail
              have h0 : 0 ≤ pi + (j : Int) := by omega
              rcases hy : byteF l (pi + j) 0 255 with ⟨er, q⟩ | v
              · refine (byte_bad g l (pi + j) 0 255 er q w0 _ HS.out.I HS.out.B h0 g2 hy).mono ?_
                rintro e w2 ⟨rfl, hB1, hK1⟩
                have FE := Lib.hid (show stepsF l = .error (er, q) by
                  have := E1.out
                  rw [sumF_bad hy] at this
                  simp only [preS] at this
                  simp [stepsF, HH4.out, HX.out, HLs.out, bind, Except.bind, this])
                unfold wrFlt
                clear hy
                go_wp2
                rw [FE.out]
                exact ⟨rfl, rfl, hB1, HS.out.K.trans hK1 (.inl rfl)⟩
              · refine (byte_ok g l (pi + j) 0 255 v w0 _ HS.out.I HS.out.B h0 g2 hy).mono ?_
                rintro e w2 ⟨rfl, hI1, hB1, hK1⟩
                obtain ⟨q0, q1, q2⟩ := byteF_fits h0 g2 hy
                have S2 := Aside0.mk (HS.out.call hI1 hB1 hK1)
                have O2 := Aside0.mk (Kd.S_keep HO.out hK1 (fun k h => h.1))
                have b2 := Aside0.mk (hK1.blk HB3.out (by have := z3.out; omega) (by simp))
                have x2 := blk_frozen b2.out j
                obtain ⟨vv, hvv⟩ : ∃ vv, w2.cell? ⟨wx.heap.size, j, none⟩ = some vv := ⟨_, (blk_cell b2.out j).trans (Array.getElem?_eq_getElem (by simp [srow]; omega))⟩
                have p0 : (0 ≤ (j : Int)) = True := eq_true (by omega)
                have p1 : ((j : Int) < 4) = True := eq_true (by omega)
                have HY := Lib.hid hy
                clear hI1 hB1 hK1 hy HS HO HB3
                go_wp2
                have e8 : pi + ((j + 1 : Nat) : Int) = pi + (j : Int) + 1 := by omega
                have hki : 4 - (j + 1) = k := by have := HK.out; omega
                refine ⟨⟨j + 1, cs ++ [v], by omega, rfl, ⟨?_⟩, ⟨by rw [List.length_append, HCL.out]; rfl⟩, ⟨by rw [e8]; exact S2.out.far (a := ⟨wx.heap.size, j, none⟩) z3.out _⟩, ⟨?_⟩, ⟨Kd.S_far (p := ⟨wx.heap.size, j, none⟩) O2.out (fun k h => h.2) _⟩, by omega⟩, by simp [intOf]; omega⟩
                · rw [E1.out, hki, preS_snoc, sumF_succ HY.out, e8]
                · have := blk_put b2.out cs.length (.int .u8 v) (srow_snoc cs v (by rw [HCL.out]; exact hlt3))
                  rw [HCL.out] at this
                  exact this
            · obtain rfl : j = 4 := by omega
              have hs : sumF l 4 pi = .ok cs := by have := HC.out; rw [Nat.sub_self] at this; simpa [sumF, preS] using this
              obtain ⟨s0, s1, s2, s3, rfl⟩ : ∃ s0 s1 s2 s3, cs = [s0, s1, s2, s3] := by
                match cs, HCL.out with
                | [a, b, c, d], _ => exact ⟨a, b, c, d, rfl⟩
              have HSs := Lib.hid hs
              clear hs HC
              obtain ⟨A, c, hb, hg, hC, hcc⟩ := HS.out.I
              have c0 : wr.cell? ⟨g, 0, none⟩ = some (.slice A l.length c) := (blk_cell hb 0).trans rfl
              have c1 : wr.cell? ⟨g, 1, none⟩ = some (.int .i64 (pi + 4)) := (blk_cell hb 1).trans rfl
              have x0 : wr.cell? ⟨wx.heap.size, 0, none⟩ = some (.int .u8 s0) := (blk_cell HB3.out 0).trans rfl
              have x1 : wr.cell? ⟨wx.heap.size, 1, none⟩ = some (.int .u8 s1) := (blk_cell HB3.out 1).trans rfl
              have x2 : wr.cell? ⟨wx.heap.size, 2, none⟩ = some (.int .u8 s2) := (blk_cell HB3.out 2).trans rfl
              have x3 : wr.cell? ⟨wx.heap.size, 3, none⟩ = some (.int .u8 s3) := (blk_cell HB3.out 3).trans rfl
              obtain ⟨i08, hi08, _, hsz8, _⟩ := info_parts octets_ReadUint.info
              have hpl : pi ≤ (l.length : Int) := by omega
              obtain ⟨hcut, hA8, hC8⟩ := print_take_of (P := Try.prog) (Value.int .u8) 0 29 5 .i64 Try.underlying29 hi08 hsz8 A c l pi g0 hpl hcc
              obtain ⟨lt, elt⟩ : ∃ lt, l.take pi.toNat = lt := ⟨_, rfl⟩
              rw [elt] at hcut hA8 hC8
              have ELT := Lib.hid elt
              have HC8 := Aside0.mk hC8
              have HCw : Aside0 (Kd.C (Kd.int .u8) wr A lt.length lt) := ⟨Kd.C_of_reads (h1 := fun _ => rfl) (hA8 _ (Kd.reads_of_C (Kd.C_below hC HS.out.B)))⟩
              have hcr := crcL_fits lt
              obtain ⟨cr, ecr⟩ : ∃ cr, crcL lt = cr := ⟨_, rfl⟩
              have cS : ∀ W, Below wr.heap.size wr W → Calls Try.prog 25 #[.slice A lt.length c] W (fun e w' => e = .returned (.int .u32 cr) ∧ Below W.heap.size W w') := fun W hb => octets_Sum.calls A c lt cr W (Kd.C_below HCw.out hb) HC8.out (by unfold octets_Sum.f; rw [ecr])
              rw [ecr] at hcr
              have ECR := Lib.hid ecr
              have cL : ∀ W, Calls Try.prog 24 #[.int .u32 cr] W (fun e w' => e = .returned (.agg #[.int .u8 (lit4 cr 0), .int .u8 (lit4 cr 1), .int .u8 (lit4 cr 2), .int .u8 (lit4 cr 3)]) ∧ Below W.heap.size W w') := fun W => little_any cr W hcr.1 hcr.2
              have CS := Aside0.mk cS
              have CL := Aside0.mk cL
              have heq : ∀ w : World, (Op.equalIn 10000 60 (.agg #[.int .u8 s0, .int .u8 s1, .int .u8 s2, .int .u8 s3]) (.agg #[.int .u8 (lit4 cr 0), .int .u8 (lit4 cr 1), .int .u8 (lit4 cr 2), .int .u8 (lit4 cr 3)])).run Try.prog w = .ok (s0 == lit4 cr 0 && (s1 == lit4 cr 1 && (s2 == lit4 cr 2 && s3 == lit4 cr 3))) w := fun w => run_eq4 9998 s0 s1 s2 s3 (lit4 cr 0) (lit4 cr 1) (lit4 cr 2) (lit4 cr 3) w
              have hsum : sum4 l pi = [lit4 cr 0, lit4 cr 1, lit4 cr 2, lit4 cr 3] := by
                unfold sum4
                rw [elt, ecr]
                rfl
              rcases hb2 : (s0 == lit4 cr 0 && (s1 == lit4 cr 1 && (s2 == lit4 cr 2 && s3 == lit4 cr 3))) with _ | _
              · rw [hb2] at heq
                have FE : Hid (stepsF l = .error (13, pi)) := by
                  have hne : [s0, s1, s2, s3] ≠ sum4 l pi := by
                    intro e
                    rw [hsum] at e
                    simp only [List.cons.injEq, and_true] at e
                    obtain ⟨e0, e1, e2, e3⟩ := e
                    rw [e0, e1, e2, e3] at hb2
                    simp at hb2
                  exact Lib.hid (by simp [stepsF, HH4.out, HX.out, HLs.out, HSs.out, bind, Except.bind, hne])
                have hpan := run_panic
                clear hb hg hC hcc hA8 hC8 hi08 hsz8 elt ecr cS cL hcr hb2 hsum
                go_wp2_with fail
                go_region_with (first | (go_at_call 25; refine (CS.out _ ?_).mono ?_; (exact (by repeat (first | exact Below.refl _ _ | apply below_drew | apply pw_below_drewN))); rintro e w5 ⟨rfl, hb5⟩; have N5 := Aside0.mk (below_step (w := wr) (by repeat (first | exact Below.refl _ _ | apply below_drew | apply pw_below_drewN)) hb5); have b5 := Aside0.mk (blk_below HB3.out N5.out); have y0 : w5.cell? ⟨wx.heap.size, 0, none⟩ = some (.int .u8 s0) := (blk_cell b5.out 0).trans rfl; have y1 : w5.cell? ⟨wx.heap.size, 1, none⟩ = some (.int .u8 s1) := (blk_cell b5.out 1).trans rfl; have y2 : w5.cell? ⟨wx.heap.size, 2, none⟩ = some (.int .u8 s2) := (blk_cell b5.out 2).trans rfl; have y3 : w5.cell? ⟨wx.heap.size, 3, none⟩ = some (.int .u8 s3) := (blk_cell b5.out 3).trans rfl; clear hb5) | (go_at_call 24; refine (CL.out _).mono ?_; rintro e w6 ⟨rfl, hb6⟩; have N6 := Aside0.mk (below_step N5.out hb6); have b6 := Aside0.mk (blk_below HB3.out N6.out); have z0 : w6.cell? ⟨wx.heap.size, 0, none⟩ = some (.int .u8 s0) := (blk_cell b6.out 0).trans rfl; have z1 : w6.cell? ⟨wx.heap.size, 1, none⟩ = some (.int .u8 s1) := (blk_cell b6.out 1).trans rfl; have z2 : w6.cell? ⟨wx.heap.size, 2, none⟩ = some (.int .u8 s2) := (blk_cell b6.out 2).trans rfl; have z3 : w6.cell? ⟨wx.heap.size, 3, none⟩ = some (.int .u8 s3) := (blk_cell b6.out 3).trans rfl; have c06 : w6.cell? ⟨g, 0, none⟩ = some (.slice A l.length c) := pw_cell_below N6.out c0; have c16 : w6.cell? ⟨g, 1, none⟩ = some (.int .i64 (pi + 4)) := pw_cell_below N6.out c1; clear hb6))
                all_goals
                  go_wp2
                  rw [FE.out]
                  exact ⟨rfl, rfl, below_step HS.out.B N6.out, HS.out.K.trans (KeepBut.of_below N6.out g none) (.inl rfl)⟩
              · rw [hb2] at heq
                have heq2 : [s0, s1, s2, s3] = sum4 l pi := by
                  rw [hsum]
                  simp only [Bool.and_eq_true, beq_iff_eq] at hb2
                  obtain ⟨e0, e1, e2, e3⟩ := hb2
                  rw [e0, e1, e2, e3]
                have FE : Hid (stepsF l = if pi + 4 < l.length then .error (9, pi + 4) else .ok acc) :=
                  Lib.hid (by simp [stepsF, HH4.out, HX.out, HLs.out, HSs.out, bind, Except.bind, heq2, pure, Except.pure])
                have hpan := run_panic
                by_cases hlt4 : pi + 4 < (l.length : Int)
                · have d4 : decide (pi + 4 < (l.length : Int)) = true := decide_eq_true hlt4
                  have hf := FE.out
                  rw [if_pos hlt4] at hf
                  have FE2 := Lib.hid hf
                  clear hb hg hC hcc hA8 hC8 hi08 hsz8 elt ecr cS cL hcr hb2 hsum heq2 FE hf hlt4
                  go_wp2_with fail
                  go_region_with (first | (go_at_call 25; refine (CS.out _ ?_).mono ?_; (exact (by repeat (first | exact Below.refl _ _ | apply below_drew | apply pw_below_drewN))); rintro e w5 ⟨rfl, hb5⟩; have N5 := Aside0.mk (below_step (w := wr) (by repeat (first | exact Below.refl _ _ | apply below_drew | apply pw_below_drewN)) hb5); have b5 := Aside0.mk (blk_below HB3.out N5.out); have y0 : w5.cell? ⟨wx.heap.size, 0, none⟩ = some (.int .u8 s0) := (blk_cell b5.out 0).trans rfl; have y1 : w5.cell? ⟨wx.heap.size, 1, none⟩ = some (.int .u8 s1) := (blk_cell b5.out 1).trans rfl; have y2 : w5.cell? ⟨wx.heap.size, 2, none⟩ = some (.int .u8 s2) := (blk_cell b5.out 2).trans rfl; have y3 : w5.cell? ⟨wx.heap.size, 3, none⟩ = some (.int .u8 s3) := (blk_cell b5.out 3).trans rfl; clear hb5) | (go_at_call 24; refine (CL.out _).mono ?_; rintro e w6 ⟨rfl, hb6⟩; have N6 := Aside0.mk (below_step N5.out hb6); have b6 := Aside0.mk (blk_below HB3.out N6.out); have z0 : w6.cell? ⟨wx.heap.size, 0, none⟩ = some (.int .u8 s0) := (blk_cell b6.out 0).trans rfl; have z1 : w6.cell? ⟨wx.heap.size, 1, none⟩ = some (.int .u8 s1) := (blk_cell b6.out 1).trans rfl; have z2 : w6.cell? ⟨wx.heap.size, 2, none⟩ = some (.int .u8 s2) := (blk_cell b6.out 2).trans rfl; have z3 : w6.cell? ⟨wx.heap.size, 3, none⟩ = some (.int .u8 s3) := (blk_cell b6.out 3).trans rfl; have c06 : w6.cell? ⟨g, 0, none⟩ = some (.slice A l.length c) := pw_cell_below N6.out c0; have c16 : w6.cell? ⟨g, 1, none⟩ = some (.int .i64 (pi + 4)) := pw_cell_below N6.out c1; clear hb6))
                  all_goals
                    go_wp2
                    go_quiet (fail)
                    go_wp2
                    rw [FE2.out]
                    exact ⟨rfl, rfl, by repeat (first | exact below_step HS.out.B N6.out | apply pw_below_drewN), by repeat (first | exact HS.out.K.trans (KeepBut.of_below N6.out g none) (.inl rfl) | apply keep_drewN)⟩
                · have d4 : decide (pi + 4 < (l.length : Int)) = false := decide_eq_false hlt4
                  have hf := FE.out
                  rw [if_neg hlt4] at hf
                  have FE2 := Lib.hid hf
                  clear hb hg hC hcc hA8 hC8 hi08 hsz8 elt ecr cS cL hcr hb2 hsum heq2 FE hf hlt4
                  go_wp2_with fail
                  go_region_with (first | (go_at_call 25; refine (CS.out _ ?_).mono ?_; (exact (by repeat (first | exact Below.refl _ _ | apply below_drew | apply pw_below_drewN))); rintro e w5 ⟨rfl, hb5⟩; have N5 := Aside0.mk (below_step (w := wr) (by repeat (first | exact Below.refl _ _ | apply below_drew | apply pw_below_drewN)) hb5); have b5 := Aside0.mk (blk_below HB3.out N5.out); have y0 : w5.cell? ⟨wx.heap.size, 0, none⟩ = some (.int .u8 s0) := (blk_cell b5.out 0).trans rfl; have y1 : w5.cell? ⟨wx.heap.size, 1, none⟩ = some (.int .u8 s1) := (blk_cell b5.out 1).trans rfl; have y2 : w5.cell? ⟨wx.heap.size, 2, none⟩ = some (.int .u8 s2) := (blk_cell b5.out 2).trans rfl; have y3 : w5.cell? ⟨wx.heap.size, 3, none⟩ = some (.int .u8 s3) := (blk_cell b5.out 3).trans rfl; clear hb5) | (go_at_call 24; refine (CL.out _).mono ?_; rintro e w6 ⟨rfl, hb6⟩; have N6 := Aside0.mk (below_step N5.out hb6); have b6 := Aside0.mk (blk_below HB3.out N6.out); have z0 : w6.cell? ⟨wx.heap.size, 0, none⟩ = some (.int .u8 s0) := (blk_cell b6.out 0).trans rfl; have z1 : w6.cell? ⟨wx.heap.size, 1, none⟩ = some (.int .u8 s1) := (blk_cell b6.out 1).trans rfl; have z2 : w6.cell? ⟨wx.heap.size, 2, none⟩ = some (.int .u8 s2) := (blk_cell b6.out 2).trans rfl; have z3 : w6.cell? ⟨wx.heap.size, 3, none⟩ = some (.int .u8 s3) := (blk_cell b6.out 3).trans rfl; have c06 : w6.cell? ⟨g, 0, none⟩ = some (.slice A l.length c) := pw_cell_below N6.out c0; have c16 : w6.cell? ⟨g, 1, none⟩ = some (.int .i64 (pi + 4)) := pw_cell_below N6.out c1; clear hb6))
                  all_goals
                    go_wp2
                    go_quiet (fail)
                    go_wp2
                    go_ret
                    rw [FE2.out]
                    exact ⟨u4, rfl, Kd.S_mono (by repeat (first | exact Kd.S_below HO.out N6.out | apply Kd.S_drewN)) (fun _ _ => trivial), by repeat (first | exact below_step HS.out.B N6.out | apply pw_below_drewN), by repeat (first | exact HS.out.K.trans (KeepBut.of_below N6.out g none) (.inl rfl) | apply keep_drewN)⟩


/-! ### wire_Decode: function 18 -/
theorem catch_idle (a b c : Addr) (w : World) :
    CallsD Try.prog 30 #[.pointer (some a), .pointer (some b), .pointer (some c)] .returning w fun e u' w' => e = .returned (.tuple #[]) ∧ u' = .returning ∧ w' = w := by
  refine callsD_of_wpS Try.func30 rfl fun c₀ cs hu => ?_
  apply wpS_seq
  apply wpS_region
  simp [wpOpsS, go_sem, recoverD, hu, Try.ntmps30, Exit.thenS]
  apply wpS_seq
  apply wpS_region
  simp [wpOpsS, go_sem, Exit.thenS]
  refine wpS_cond (t := false) (by simp [Act.eval, Array.replicate]) ?_
  simp only [Bool.false_eq_true, if_false]
  refine wpS_of_wp (wp_skip ?_)
  cases c₀
  simp_all [bodyPostS, results, Try.results30]
/-- The deferred closure's three variables hold these. -/
def Out3 (w : World) (n : Nat) (v : Value) (e p : Int) : Prop := w.heap[n]? = some (.cells #[v] 22 (0, 0)) ∧ w.heap[n + 1]? = some (.cells #[.int .i64 e] 24 (0, 0)) ∧ w.heap[n + 2]? = some (.cells #[.int .i64 p] 3 (0, 0))
theorem catch_fault (n : Nat) (v : Value) (x y e p : Int) (older : List PanicEntry) (w0 w : World) (h : Out3 w n v x y) (hB : Below w0.heap.size w0 w) (hn : w0.heap.size ≤ n) :
    CallsD Try.prog 30 #[.pointer (some ⟨n, 0, none⟩), .pointer (some ⟨n + 1, 0, none⟩), .pointer (some ⟨n + 2, 0, none⟩)] (.panicking ({ v := .iface 66 (.agg #[.int .i64 e, .int .i64 p]), recovered := false } :: older)) w fun r u' w' =>
      r = .returned (.tuple #[]) ∧ u' = .panicking ({ v := .iface 66 (.agg #[.int .i64 e, .int .i64 p]), recovered := true } :: older) ∧ Out3 w' n (.slice none 0 0) e p ∧ Below w0.heap.size w0 w' := by
  obtain ⟨h1, h2, h3⟩ := h
  refine callsD_of_wpS Try.func30 rfl fun c₀ cs hu => ?_
  apply wpS_seq
  apply wpS_region
  simp [wpOpsS, go_sem, recoverD, hu, Try.ntmps30, Exit.thenS]
  apply wpS_seq
  apply wpS_region
  simp [wpOpsS, go_sem, Exit.thenS]
  refine wpS_cond (t := true) (by simp [Act.eval, Array.replicate]) ?_
  simp only [if_true]
  refine wpS_of_wp ?_
  have htm : #[Value.pointer (some ⟨n, 0, none⟩), Value.pointer (some ⟨n + 1, 0, none⟩), Value.pointer (some ⟨n + 2, 0, none⟩)] ++ ((((Array.replicate 18 undef).setIfInBounds 3 (Value.iface 66 (Value.agg #[Value.int IntKind.i64 e, Value.int IntKind.i64 p]))).setIfInBounds 0 (Value.iface 66 (Value.agg #[Value.int IntKind.i64 e, Value.int IntKind.i64 p]))).setIfInBounds 4 (Value.iface 66 (Value.agg #[Value.int IntKind.i64 e, Value.int IntKind.i64 p]))).setIfInBounds 5 (Value.bool true) = #[Value.pointer (some ⟨n, 0, none⟩), .pointer (some ⟨n + 1, 0, none⟩), .pointer (some ⟨n + 2, 0, none⟩), .iface 66 (.agg #[.int .i64 e, .int .i64 p]), undef, undef, .iface 66 (.agg #[.int .i64 e, .int .i64 p]), .iface 66 (.agg #[.int .i64 e, .int .i64 p]), .bool true, undef, undef, undef, undef, undef, undef, undef, undef, undef, undef, undef, undef] := by kernel_rfl
  rw [htm]
  have hta : ∀ (z : Value) (w : World), (Instr.typeAssert (.iface 66 z) 20 66 true).run Try.prog w = .ok (.tuple #[z, .bool true]) w := fun _ _ => by kernel_rfl
  have a1 : w.cell? ⟨n, 0, none⟩ = some v := (blk_cell h1 0).trans rfl
  have a2 : w.cell? ⟨n + 1, 0, none⟩ = some (.int .i64 x) := (blk_cell h2 0).trans rfl
  have a3 : w.cell? ⟨n + 2, 0, none⟩ = some (.int .i64 y) := (blk_cell h3 0).trans rfl
  have f1 := blk_frozen h1 0
  have f2 := blk_frozen h2 0
  have f3 := blk_frozen h3 0
  have l1 : n < w.heap.size := blk_lt h1
  have l2 : n + 1 < w.heap.size := blk_lt h2
  have l3 : n + 2 < w.heap.size := blk_lt h3
  have H1 := Aside0.mk h1
  have H2 := Aside0.mk h2
  have H3 := Aside0.mk h3
  have HB := Aside0.mk hB
  clear h1 h2 h3 hB
  go_wp2_with fail
  generalize hwa : w.alloc (.cells #[.int .i64 e, .int .i64 p] 66) = wa
  have H1' := Aside0.mk (hwa ▸ blk_alloc H1.out (.cells #[.int .i64 e, .int .i64 p] 66 (0, 0)))
  have H2' := Aside0.mk (hwa ▸ blk_alloc H2.out (.cells #[.int .i64 e, .int .i64 p] 66 (0, 0)))
  have H3' := Aside0.mk (hwa ▸ blk_alloc H3.out (.cells #[.int .i64 e, .int .i64 p] 66 (0, 0)))
  have H4' := Aside0.mk (hwa ▸ blk_new w (.cells #[.int .i64 e, .int .i64 p] 66 (0, 0)))
  have HB' := Aside0.mk (hwa ▸ below_alloc HB.out (.cells #[.int .i64 e, .int .i64 p] 66 (0, 0)))
  have g1 : wa.cell? ⟨n, 0, none⟩ = some v := (blk_cell H1'.out 0).trans rfl
  have g2 : wa.cell? ⟨n + 1, 0, none⟩ = some (.int .i64 x) := (blk_cell H2'.out 0).trans rfl
  have g3 : wa.cell? ⟨n + 2, 0, none⟩ = some (.int .i64 y) := (blk_cell H3'.out 0).trans rfl
  have g4 : wa.cell? ⟨w.heap.size, 0, none⟩ = some (.int .i64 e) := (blk_cell H4'.out 0).trans rfl
  have g5 : wa.cell? ⟨w.heap.size, 1, none⟩ = some (.int .i64 p) := (blk_cell H4'.out 1).trans rfl
  have k1 := blk_frozen H1'.out 0
  have k2 := blk_frozen H2'.out 0
  have k3 := blk_frozen H3'.out 0
  have n1 : ¬ n = w.heap.size := by omega
  have n2 : ¬ n + 1 = w.heap.size := by omega
  have n3 : ¬ n + 2 = w.heap.size := by omega
  have m1 : ¬ w.heap.size = n := by omega
  have m2 : ¬ w.heap.size = n + 1 := by omega
  have m3 : ¬ w.heap.size = n + 2 := by omega
  clear a1 a2 a3 f1 f2 f3 hwa H1 H2 H3 HB l1 l2 l3
  go_region
  refine ⟨rfl, .panicking ({ v := .iface 66 (.agg #[.int .i64 e, .int .i64 p]), recovered := true } :: older), ?_, .tuple #[], ?_, rfl, rfl, ⟨?_, ?_, ?_⟩, ?_⟩
  · cases c₀
    simp_all
  · simp [results, Try.results30]
  · exact blk_far (blk_far (blk_put H1'.out 0 _ rfl) (by simp) _) (by simp) _
  · exact blk_far (blk_put (blk_far H2'.out (by simp) _) 0 _ rfl) (by simp) _
  · exact blk_put (blk_far (blk_far H3'.out (by simp) _) (by simp) _) 0 _ rfl
  · exact below_drew (below_set (below_set (below_set HB'.out (by omega)) (by omega)) (by omega))

def decodeF (l : List Int) : List S52 × Int × Int := match stepsF l with
  | .ok ss => (ss, 0, l.length)
  | .error (e, p) => ([], e, p)
def wire_Decode.f (l0 : List Int) : Option (List S52 × Int × Int) := if Bytes l0 then some (decodeF l0) else none
set_option maxHeartbeats 1000000 in
theorem wire_Decode.calls (A0 : Option Addr) (c0 : Nat) (l0 : List Int) (r1 : List S52) (r2 : Int) (r3 : Int) (w : World) (hr0 : Kd.C (Kd.int .u8) w A0 l0.length l0) (hc0 : l0.length ≤ c0) (h : wire_Decode.f l0 = some (r1, r2, r3)) :
    Calls Try.prog 18 #[.slice A0 l0.length c0] w fun e w' => ∃ v0_ : Value, e = .returned (.tuple #[v0_, .int .i64 r2, .int .i64 r3]) ∧ Kd.S k52 52 w' w.heap.size (fun _ => True) v0_ r1 ∧ Below w.heap.size w w' := by
  unfold wire_Decode.f at h
  by_cases hby : Bytes l0
  · rw [if_pos hby] at h
    have h := Option.some.inj h
    have HE := Lib.hid h
    obtain ⟨W3, hW3⟩ : ∃ W3, W3 = ((w.alloc (.cells #[.slice none 0 0] 22 (0, 0))).alloc (.cells #[.int .i64 0] 24 (0, 0))).alloc (.cells #[.int .i64 0] 3 (0, 0)) := ⟨_, rfl⟩
    have e1 : W3.heap[w.heap.size]? = some (.cells #[.slice none 0 0] 22 (0, 0)) := by rw [hW3]; exact blk_alloc (blk_alloc (blk_new w _) _) _
    have e2 : W3.heap[w.heap.size + 1]? = some (.cells #[.int .i64 0] 24 (0, 0)) := by
      rw [hW3]
      refine blk_alloc ?_ _
      have := blk_new (w.alloc (.cells #[.slice none 0 0] 22 (0, 0))) (.cells #[.int .i64 0] 24 (0, 0))
      simpa using this
    have e3 : W3.heap[w.heap.size + 2]? = some (.cells #[.int .i64 0] 3 (0, 0)) := by
      rw [hW3]
      have := blk_new ((w.alloc (.cells #[.slice none 0 0] 22 (0, 0))).alloc (.cells #[.int .i64 0] 24 (0, 0))) (.cells #[.int .i64 0] 3 (0, 0))
      simpa using this
    have s3 : W3.heap.size = w.heap.size + 3 := by rw [hW3]; simp
    have b3 : Below w.heap.size w W3 := by rw [hW3]; exact below_alloc (below_alloc (below_alloc (Below.refl _ _) _) _) _
    have I4 : WrIs w (W3.alloc (.cells #[.slice A0 l0.length c0, .int .i64 0] 70 (0, 0))) (w.heap.size + 3) l0 0 := ⟨A0, c0, by have := blk_new W3 (.cells #[.slice A0 l0.length c0, .int .i64 0] 70 (0, 0)); rwa [s3] at this, by omega, hr0, hc0⟩
    have st := steps_any (w.heap.size + 3) l0 w _ I4 (below_alloc b3 _) hby
    have E1 := Aside0.mk (blk_alloc e1 (.cells #[.slice A0 l0.length c0, .int .i64 0] 70 (0, 0)))
    have E2 := Aside0.mk (blk_alloc e2 (.cells #[.slice A0 l0.length c0, .int .i64 0] 70 (0, 0)))
    have E3 := Aside0.mk (blk_alloc e3 (.cells #[.slice A0 l0.length c0, .int .i64 0] 70 (0, 0)))
    rw [hW3] at st E1 E2 E3
    have ST := Aside0.mk st
    have hmf : ∀ (fn : Fn) (first cap : Array Value) (w : World), (Instr.makeFunc fn first cap).run Try.prog w = .ok (.func fn first cap) w := fun _ _ _ _ => rfl
    have hmax : (l0.length : Int) ≤ 9223372036854775807 := by have := hr0.2.1; omega
    clear e1 e2 e3 s3 b3 I4 st hW3 h hr0 hc0 hby W3
    go_enter_defers Try.func18, Try.ntmps18
    go_wp2_with fail
    refine (show Calls Try.prog 31 #[.pointer (some ⟨w.heap.size + 1 + 1 + 1, 0, none⟩)] _ _ from ST.out).mono ?_
    have hE := HE.out
    unfold decodeF at hE
    rcases hs : stepsF l0 with ⟨er, q⟩ | ss
    · rw [hs] at hE
      simp only [Prod.mk.injEq] at hE
      obtain ⟨rfl, rfl, rfl⟩ := hE
      rintro e w1 ⟨rfl, hB1, hK1⟩
      have O1 : Out3 w1 w.heap.size (.slice none 0 0) 0 0 := ⟨hK1.blk E1.out (by omega) (by simp), hK1.blk E2.out (by omega) (by simp), hK1.blk E3.out (by omega) (by simp)⟩
      have OO := Aside0.mk O1
      have BB := Aside0.mk hB1
      unfold wrFlt
      clear hs hB1 hK1 O1 ST HE E1 E2 E3
      go_wp2
      refine leaves_cons (f := 30) (args := #[.pointer (some ⟨w.heap.size, 0, none⟩), .pointer (some ⟨w.heap.size + 1, 0, none⟩), .pointer (some ⟨w.heap.size + 1 + 1, 0, none⟩)]) (by simp) (by simp [go_sem]) ?_
      refine (catch_fault w.heap.size (.slice none 0 0) 0 0 er q [] w w1 OO.out BB.out (Nat.le_refl _)).mono ?_
      rintro r u' w2 ⟨rfl, rfl, ⟨o1, o2, o3⟩, hB2⟩
      have y1 : w2.cell? ⟨w.heap.size, 0, none⟩ = some (.slice none 0 0) := (blk_cell o1 0).trans rfl
      have y2 : w2.cell? ⟨w.heap.size + 1, 0, none⟩ = some (.int .i64 er) := (blk_cell o2 0).trans rfl
      have y3 : w2.cell? ⟨w.heap.size + 1 + 1, 0, none⟩ = some (.int .i64 q) := (blk_cell o3 0).trans rfl
      refine ⟨.tuple #[.slice none 0 0, .int .i64 er, .int .i64 q], ?_, _, rfl, Kd.S_nil _ _ _ _ _, hB2⟩
      simp [results, Try.results18, go_sem, y1, y2, y3]
    · rw [hs] at hE
      simp only [Prod.mk.injEq] at hE
      obtain ⟨rfl, rfl, rfl⟩ := hE
      rintro e w1 ⟨v, rfl, hS, hB1, hK1⟩
      obtain ⟨Ao, co, eo⟩ := Kd.R_slice (Kd.S_R hS)
      subst eo
      have o1 := Aside0.mk (hK1.blk E1.out (by omega) (by simp))
      have o2 := Aside0.mk (hK1.blk E2.out (by omega) (by simp))
      have o3 := Aside0.mk (hK1.blk E3.out (by omega) (by simp))
      have BB := Aside0.mk hB1
      have SS := Aside0.mk (Kd.S_mono (Kd.S_bound hS) (ok' := fun k => w.heap.size + 3 ≤ k) (fun k hk => by have := hk.2.1; simp at this; omega))
      have y1 : w1.cell? ⟨w.heap.size, 0, none⟩ = some (.slice none 0 0) := (blk_cell o1.out 0).trans rfl
      have y2 : w1.cell? ⟨w.heap.size + 1, 0, none⟩ = some (.int .i64 0) := (blk_cell o2.out 0).trans rfl
      have y3 : w1.cell? ⟨w.heap.size + 1 + 1, 0, none⟩ = some (.int .i64 0) := (blk_cell o3.out 0).trans rfl
      have f1 := blk_frozen o1.out 0
      have f2 := blk_frozen o2.out 0
      have f3 : w1.frozen? ⟨w.heap.size + 1 + 1, 0, none⟩ = false := blk_frozen o3.out 0
      clear hs hB1 hK1 hS ST HE E1 E2 E3
      go_wp2
      refine leaves_cons (f := 30) (args := #[.pointer (some ⟨w.heap.size, 0, none⟩), .pointer (some ⟨w.heap.size + 1, 0, none⟩), .pointer (some ⟨w.heap.size + 1 + 1, 0, none⟩)]) (by simp) (by simp [go_sem]) ?_
      refine (catch_idle _ _ _ _).mono ?_
      rintro r u' w2 ⟨rfl, rfl, rfl⟩
      refine ⟨.tuple #[.slice Ao ss.length co, .int .i64 0, .int .i64 l0.length], ?_, _, rfl, ?_, ?_⟩
      · simp [results, Try.results18, go_sem, y1, y2, y3]
      · refine Kd.S_mono (ok := fun k => w.heap.size + 3 ≤ k) ?_ (fun _ _ => trivial)
        refine Kd.S_far (Kd.S_far (Kd.S_far (Kd.S_lower SS.out ?_) ?_ _) ?_ _) ?_ _
        · simp only [World.size_alloc]; omega
        all_goals (intro k hk; simp only; omega)
      · exact below_set (below_set (below_set BB.out (by omega)) (by omega)) (by omega)
  · rw [if_neg hby] at h
    cases h


/-! ### lexpriorlaw21_alive: function 16 -/
def lexpriorlaw21_alive.S : S52 := ⟨1, 0, 1, (-1), []⟩
def lexpriorlaw21_alive.B : List Int := [108, 120, 100, 1, 1, 1, 0, 1, 0, 0, 7, 232, 49, 127]
def lexpriorlaw21_alive.f (k : Nat) : Option Bool := (wire_Encode.f k ([(⟨1, 0, 1, (-1), ([] : List (S54))⟩ : S52)] : List (S52))).bind fun r => if r = (lexpriorlaw21_alive.B, 0) then some true else none
theorem lexpriorlaw21_alive.mono : ∀ k, LeO (lexpriorlaw21_alive.f k) (lexpriorlaw21_alive.f (k + 1)) := by
  intro k
  exact LeO.bind (wire_Encode.mono _ _) (fun _ => LeO.refl _)
theorem lexpriorlaw21_alive.dec1 : wire_Decode.f lexpriorlaw21_alive.B = some ([(⟨1, 0, 1, (-1), ([] : List (S54))⟩ : S52)], 0, 14) := by kernel_rfl
theorem lexpriorlaw21_alive.dec2 : wire_Decode.f [108, 120, 100] = some ([], 8, 3) := by kernel_rfl
theorem lexpriorlaw21_alive.calls (k : Nat) (r : Bool) (w : World) (h : lexpriorlaw21_alive.f k = some r) :
    Calls Try.prog 16 #[] w fun e w' => e = .returned (.bool r) ∧ Below w.heap.size w w' := by
  have hu52 := Try.underlying52
  have HB := Aside0.mk (Below.refl w.heap.size w)
  obtain ⟨q, hq, h⟩ := Option.bind_eq_some_iff.1 h
  by_cases hqe : q = (lexpriorlaw21_alive.B, 0)
  · rw [if_pos hqe] at h
    subst hqe
    obtain rfl := Option.some.inj h
    obtain ⟨y227, hy227⟩ : ∃ y_ : List (S52), y_ = (([(⟨1, 0, 1, (-1), ([] : List (S54))⟩ : S52)] : List (S52))) := ⟨_, rfl⟩
    rw [← hy227] at hq
    have Ny227 := Aside0.mk hy227
    obtain ⟨t230, ht230⟩ : ∃ t, t = lexpriorlaw21_alive.B := ⟨_, rfl⟩
    rw [← ht230] at hq
    have Nt230 := Aside0.mk ht230
    have A2 := Aside0.mk lexpriorlaw21_alive.dec1
    rw [← ht230, ← hy227] at A2
    have A1 := Aside0.mk hq
    have A3 := Aside0.mk lexpriorlaw21_alive.dec2
    have L230 := Aside0.mk (show t230.length = 14 by rw [ht230]; rfl)
    have r4 : rd t230 4 = 1 := by rw [ht230]; rfl
    have r5 : rd t230 5 = 1 := by rw [ht230]; rfl
    clear hq hy227 ht230
    have kc := fun (w : World) (C : Array Value) (n c : Nat) => Lib.run_convert_bytes_const (P := Try.prog) w 29 5 C n c Try.underlying29 Try.underlying5
    go_enter Try.func16, Try.ntmps16
    go_wp2_with (first | ((with_reducible refine gate_dst (N := 11) rfl ?_); (try (refine gate_guard (by rfl) ?_; dsimp only)); refine Kd.S_lit k52 _ 52 ?hg (N := 11) ?hd (xs := ([(⟨1, 0, 1, (-1), ([] : List (S54))⟩ : S52)] : List (S52))) (inner := [.int .i64 1, .int .i64 0, .int .i64 1, .int .i64 (-1), .slice none 0 0]) (ok := fun _ => True) (okp := fun _ => True) ?hr ?hp (fun _ hk => hk) trivial (Below.refl _ _) (Nat.le_refl _) (by simp) ?_; (case hd => rfl); (case hg => rfl); (case hr => first | (go_simp; done) | (go_simp; rfl)); (case hp => exact (Reps.c5 (show Kd.M k52 _ _ _ (⟨1, 0, 1, (-1), ([] : List (S54))⟩ : S52) [.int .i64 1, .int .i64 0, .int .i64 1, .int .i64 (-1), .slice none 0 0] from (k52_mkM _ _ _ (⟨1, 0, 1, (-1), ([] : List (S54))⟩ : S52) (Kd.R_nil _ _ _ _ _))) (Reps.none _ _))); intro v228 w18 ho19 hb hg_ hnew_; clear hg_ hnew_; (first | rw [← Ny227.out] at ho19 | (simp only [Int.reduceToNat] at ho19; rw [← Ny227.out] at ho19)); have n0_ := Aside0.mk (Kd.S_lower ho19 (below_size (by repeat (first | (with_reducible first | exact HB.out | apply below_alloc | apply pw_below_drewN | apply below_drew1) | exact HB.out)))); have n1_ := Aside0.mk (below_step (by repeat (first | (with_reducible first | exact HB.out | apply below_alloc | apply pw_below_drewN | apply below_drew1) | exact HB.out)) hb); clear HB; have HO229 := n0_; have HB := n1_; clear n0_ n1_; clear hb ho19; obtain ⟨Ao20, co20, eo20⟩ := Kd.S_slice HO229.out; subst eo20) | ((with_reducible refine gate_callee (f := 11) rfl ?_); refine goesL_ (some 12) rfl rfl Try.func11 (by kernel_rfl) rfl #[.slice Ao20 y227.length co20] rfl (by (try simp only [List.map_toArray, List.map_cons, List.map_nil]); first | done | rfl | (simp only [List.length_drop, List.length_take]; rfl)) ?_; (with_reducible refine (wire_Encode.calls k _ _ y227 t230 0 _ ?side1 ?side2 A1.out).mono ?_); (case side1 => repeat (first | exact (Kd.S_reads' HO229.out).2.2 | (with_reducible refine Kd.C_alloc ?_ _) | (with_reducible refine Kd.C_drewN ?_ _) | (with_reducible refine Kd.C_drew ?_))); (case side2 => exact (Kd.S_reads' HO229.out).2.1); rintro e w21 ⟨v232, rfl, ho0, hb⟩; refine ⟨_, rfl, ?_⟩; have n0_ := Aside0.mk (Kd.S_below (by (with_reducible repeat (first | apply Kd.S_alloc | apply Kd.S_drewN | apply Kd.S_drew)); exact HO229.out) hb); have n1_ := Aside0.mk (Kd.R_lower ho0 (below_size (by repeat (first | (with_reducible first | exact HB.out | apply below_alloc | apply pw_below_drewN | apply below_drew1) | exact HB.out)))); have n2_ := Aside0.mk (below_step (by repeat (first | (with_reducible first | exact HB.out | apply below_alloc | apply pw_below_drewN | apply below_drew1) | exact HB.out)) hb); clear HO229; clear HB; have HO229 := n0_; have HO233 := n1_; have HB := n2_; clear n0_ n1_ n2_; (try clear hb); (try clear hb2); (try clear hk); (try clear hi); (try clear ho0); obtain ⟨Ao22, co22, eo22⟩ := Kd.R_slice HO233.out; subst eo22) | ((with_reducible refine gate_callee (f := 18) rfl ?_); refine goesL_ (some 17) rfl rfl Try.func18 (by kernel_rfl) rfl #[.slice Ao22 t230.length co22] rfl (by (try simp only [List.map_toArray, List.map_cons, List.map_nil]); first | done | rfl | (simp only [List.length_drop, List.length_take]; rfl)) ?_; (with_reducible refine (wire_Decode.calls _ _ t230 y227 0 14 _ ?side1 ?side2 A2.out).mono ?_); (case side1 => repeat (first | exact (Kd.R_reads' HO233.out).2.2 | (with_reducible refine Kd.C_alloc ?_ _) | (with_reducible refine Kd.C_drewN ?_ _) | (with_reducible refine Kd.C_drew ?_))); (case side2 => exact (Kd.R_reads' HO233.out).2.1); rintro e w23 ⟨v237, rfl, ho0, hb⟩; refine ⟨_, rfl, ?_⟩; have n0_ := Aside0.mk (Kd.S_elder' (by (with_reducible repeat (first | apply Kd.S_alloc | apply Kd.S_drewN | apply Kd.S_drew)); exact HO229.out) (Kd.S_base ho0) hb); have n1_ := Aside0.mk (Kd.R_below (by (with_reducible repeat (first | apply Kd.R_alloc | apply Kd.R_drewN | apply Kd.R_drew)); exact HO233.out) hb); have n2_ := Aside0.mk (Kd.S_lower (Kd.S_new' ho0 (Kd.S_lt (by (with_reducible repeat (first | apply Kd.S_alloc | apply Kd.S_drewN | apply Kd.S_drew)); exact HO229.out))) (below_size (by repeat (first | (with_reducible first | exact HB.out | apply below_alloc | apply pw_below_drewN | apply below_drew1) | exact HB.out)))); have n3_ := Aside0.mk (below_step (by repeat (first | (with_reducible first | exact HB.out | apply below_alloc | apply pw_below_drewN | apply below_drew1) | exact HB.out)) hb); clear HO229; clear HO233; clear HB; have HO229 := n0_; have HO233 := n1_; have HO238 := n2_; have HB := n3_; clear n0_ n1_ n2_ n3_; (try clear hb); (try clear hb2); (try clear hk); (try clear hi); (try clear ho0)))
    have hbk : (w23.alloc (.cells #[.int .u8 108, .int .u8 120, .int .u8 100] 5 (3, 4))).heap[w23.heap.size]? = some (.cells #[.int .u8 108, .int .u8 120, .int .u8 100] 5 (3, 4)) := blk_new w23 (.cells #[.int .u8 108, .int .u8 120, .int .u8 100] 5 (3, 4))
    have c0 : (w23.alloc (.cells #[.int .u8 108, .int .u8 120, .int .u8 100] 5 (3, 4))).cell? ⟨w23.heap.size, 0, none⟩ = some (.int .u8 108) := by simp only [World.cell?]; rw [hbk]; rfl
    have c1 : (w23.alloc (.cells #[.int .u8 108, .int .u8 120, .int .u8 100] 5 (3, 4))).cell? ⟨w23.heap.size, 1, none⟩ = some (.int .u8 120) := by simp only [World.cell?]; rw [hbk]; rfl
    have c2 : (w23.alloc (.cells #[.int .u8 108, .int .u8 120, .int .u8 100] 5 (3, 4))).cell? ⟨w23.heap.size, 2, none⟩ = some (.int .u8 100) := by simp only [World.cell?]; rw [hbk]; rfl
    have hR : Kd.C (Kd.int .u8) (w23.alloc (.cells #[.int .u8 108, .int .u8 120, .int .u8 100] 5 (3, 4))) (some ⟨w23.heap.size, 0, none⟩) 3 [108, 120, 100] :=
      Kd.C_of_reads (enc := fun n => .int .u8 n) (h1 := fun _ => rfl) (d := 0) ⟨rfl, by decide, fun _ => ⟨_, rfl, fun j hj => by
        match j, hj with
        | 0, _ => exact c0
        | 1, _ => exact c1
        | 2, _ => exact c2⟩⟩
    refine (wire_Decode.calls _ 3 [108, 120, 100] [] 8 3 _ hR (by decide) A3.out).mono ?_
    rintro e w27 ⟨v245, rfl, ho0, hb⟩
    have hbw := (below_alloc (Below.refl w23.heap.size w23) (.cells #[.int .u8 108, .int .u8 120, .int .u8 100] 5 (3, 4))).trans (hb.mono (by simp))
    have hbx := below_step HB.out hbw
    have HC := Aside0.mk (Kd.C_below ((Kd.R_reads' HO233.out).2.2) hbw)
    have HO := Aside0.mk (Kd.S_below HO238.out hbw)
    clear hR HB HO233 HO238 hbw hbk c0 c1 c2 hb ho0
    have HB := Aside0.mk hbx
    clear hbx
    obtain ⟨Ao28, co28, eo28⟩ := Kd.S_slice HO.out
    subst eo28
    have NUM := Aside0.mk (fun (a : Int) (w : World) => lexpriorlaw21_num.calls a a w rfl)
    obtain ⟨ad, e1, x4⟩ := Kd.at_int HC.out 4 (by omega) (by rw [L230.out]; decide)
    obtain ⟨ad', e2, x5⟩ := Kd.at_int HC.out 5 (by omega) (by rw [L230.out]; decide)
    cases e1
    cases e2
    (try simp only [show (4 : Int).toNat = 4 from rfl, Nat.reduceMul, Nat.reduceEqDiff, Go.Addr.add, ↓reduceIte] at x4)
    (try simp only [show (5 : Int).toNat = 5 from rfl, Nat.reduceMul, Nat.reduceEqDiff, Go.Addr.add, ↓reduceIte] at x5)
    rw [r4] at x4
    rw [r5] at x5
    have l230 := L230.out
    rw [l230]
    have hy1 : y227.length = 1 := by rw [Ny227.out]; rfl
    obtain ⟨ad251, A251_4, c251_4, e251, hx251_0, hx251_1, hx251_2, hx251_3, hx251_4, hl251_4, hi251_4⟩ := at_T52 (Kd.S_reads' HO.out).2.2 0 (by omega) (by omega)
    cases e251
    have f3 : (rd_T52 y227 0).f3 = -1 := by rw [Ny227.out]; rfl
    rw [f3] at hx251_3
    (try rw [show ((0 : Int)).toNat = 0 from rfl] at hx251_3); (try rw [show 0 * 5 = 0 from rfl] at hx251_3); (try rw [Addr.add_zero'] at hx251_3)
    rw [hy1]
    clear hx251_0 hx251_1 hx251_2 hx251_4 hl251_4 hi251_4 f3 r4 r5 A1 A2 A3 NUM
    go_wp2_with (go_at_call 13; refine (lexpriorlaw21_num.calls _ _ _ rfl).mono ?_; rintro e w' ⟨rfl, ⟨nd, rfl⟩⟩)
    go_ret
    exact ⟨rfl, pw_below_drewN HB.out _⟩
    
  · rw [if_neg hqe] at h
    exact absurd h (by simp)


/-! ### lexpriorlaw21_WireEncodes: function 3 -/
def lexpriorlaw21_WireEncodes.f (k : Nat) (l0 : List (S52)) : Option (Bool) := (lexpriorplain_CopySteps.f k l0).bind fun t227 => ((wire_Check.f k t227).bind fun bt230 => ((lexpriorref21_Check.f k l0).bind fun bt232 => ((wire_Encode.f k t227).bind fun bt234 => ((lexpriorref21_Encode.f k l0).bind fun bt238 => ((lexpriorlaw21_num.f bt230.1).bind fun t242 => (if t242 = bt232.1 then (if bt230.2 = bt232.2 then ((lexpriorplain_SameBytes.f k bt234.1 bt238.1).bind fun t243 => (if t243 = true then ((lexpriorlaw21_num.f bt234.2).bind fun t244 => (if t244 = bt238.2 then ((lexpriorplain_SameSteps.f k t227 l0).bind fun t245 => (if t245 = true then ((lexpriorlaw21_alive.f k).bind fun t246 => (some t246)) else (some false))) else (some false))) else (some false))) else (some false)) else (some false)))))))
theorem lexpriorlaw21_WireEncodes.mono : ∀ a0 k, LeO (lexpriorlaw21_WireEncodes.f k a0) (lexpriorlaw21_WireEncodes.f (k + 1) a0) := by
  intro a0 k
  unfold lexpriorlaw21_WireEncodes.f
  repeat' first
      | (with_reducible exact lexpriorlaw21_alive.mono _)
      | (with_reducible exact lexpriorplain_CopySteps.mono _ _)
      | (with_reducible exact lexpriorplain_SameBytes.mono _ _ _)
      | (with_reducible exact lexpriorplain_SameSteps.mono _ _ _)
      | (with_reducible exact lexpriorref21_Check.mono _ _)
      | (with_reducible exact lexpriorref21_Encode.mono _ _)
      | (with_reducible exact wire_Check.mono _ _)
      | (with_reducible exact wire_Encode.mono _ _)
      | (with_reducible exact LeO.refl _)
      | (with_reducible exact LeO.none _)
      | (with_reducible refine LeO.ite ?_ ?_)
      | (with_reducible refine LeO.bind ?_ (fun _ => ?_))
      | exact lexpriorlaw21_alive.mono _
      | exact lexpriorplain_CopySteps.mono _ _
      | exact lexpriorplain_SameBytes.mono _ _ _
      | exact lexpriorplain_SameSteps.mono _ _ _
      | exact lexpriorref21_Check.mono _ _
      | exact lexpriorref21_Encode.mono _ _
      | exact wire_Check.mono _ _
      | exact wire_Encode.mono _ _
      | exact LeO.none _
      | refine LeO.ite ?_ ?_
      | refine LeO.bind ?_ (fun _ => ?_)
set_option maxHeartbeats 8000000 in
set_option maxRecDepth 100000 in
theorem lexpriorlaw21_WireEncodes.calls (k : Nat) (A0 : Option Addr) (c0 : Nat) (l0 : List (S52)) (r : Bool) (w : World) (hr0 : Kd.C k52 w A0 l0.length l0) (hc0 : l0.length ≤ c0) (h : lexpriorlaw21_WireEncodes.f k l0 = some r) :
    Calls Try.prog 3 #[.slice A0 l0.length c0] w fun e w' => e = .returned (.bool r) ∧ Below w.heap.size w w' := by
  have HR0 := Aside0.mk hr0
  have HC0 := Aside0.mk hc0
  clear hr0 hc0
  have HB := Aside0.mk (Below.refl w.heap.size w)
  have H : ((lexpriorplain_CopySteps.f k l0).bind fun t227 => ((wire_Check.f k t227).bind fun bt230 => ((lexpriorref21_Check.f k l0).bind fun bt232 => ((wire_Encode.f k t227).bind fun bt234 => ((lexpriorref21_Encode.f k l0).bind fun bt238 => ((lexpriorlaw21_num.f bt230.1).bind fun t242 => (if t242 = bt232.1 then (if bt230.2 = bt232.2 then ((lexpriorplain_SameBytes.f k bt234.1 bt238.1).bind fun t243 => (if t243 = true then ((lexpriorlaw21_num.f bt234.2).bind fun t244 => (if t244 = bt238.2 then ((lexpriorplain_SameSteps.f k t227 l0).bind fun t245 => (if t245 = true then ((lexpriorlaw21_alive.f k).bind fun t246 => (some t246)) else (some false))) else (some false))) else (some false))) else (some false)) else (some false)))))))) = some r := h
  clear h
  replace H := Option.bind_eq_some_iff.mp H
  obtain ⟨t227, A20, H⟩ := H
  replace H : ((wire_Check.f k t227).bind fun bt230 => ((lexpriorref21_Check.f k l0).bind fun bt232 => ((wire_Encode.f k t227).bind fun bt234 => ((lexpriorref21_Encode.f k l0).bind fun bt238 => ((lexpriorlaw21_num.f bt230.1).bind fun t242 => (if t242 = bt232.1 then (if bt230.2 = bt232.2 then ((lexpriorplain_SameBytes.f k bt234.1 bt238.1).bind fun t243 => (if t243 = true then ((lexpriorlaw21_num.f bt234.2).bind fun t244 => (if t244 = bt238.2 then ((lexpriorplain_SameSteps.f k t227 l0).bind fun t245 => (if t245 = true then ((lexpriorlaw21_alive.f k).bind fun t246 => (some t246)) else (some false))) else (some false))) else (some false))) else (some false)) else (some false))))))) = some r := H
  have A2 := Aside0.mk A20
  clear A20
  replace H := Option.bind_eq_some_iff.mp H
  obtain ⟨⟨t230, t231⟩, A30, H⟩ := H
  replace H : ((lexpriorref21_Check.f k l0).bind fun bt232 => ((wire_Encode.f k t227).bind fun bt234 => ((lexpriorref21_Encode.f k l0).bind fun bt238 => ((lexpriorlaw21_num.f t230).bind fun t242 => (if t242 = bt232.1 then (if t231 = bt232.2 then ((lexpriorplain_SameBytes.f k bt234.1 bt238.1).bind fun t243 => (if t243 = true then ((lexpriorlaw21_num.f bt234.2).bind fun t244 => (if t244 = bt238.2 then ((lexpriorplain_SameSteps.f k t227 l0).bind fun t245 => (if t245 = true then ((lexpriorlaw21_alive.f k).bind fun t246 => (some t246)) else (some false))) else (some false))) else (some false))) else (some false)) else (some false)))))) = some r := H
  have A3 := Aside0.mk A30
  clear A30
  replace H := Option.bind_eq_some_iff.mp H
  obtain ⟨⟨t232, t233⟩, A40, H⟩ := H
  replace H : ((wire_Encode.f k t227).bind fun bt234 => ((lexpriorref21_Encode.f k l0).bind fun bt238 => ((lexpriorlaw21_num.f t230).bind fun t242 => (if t242 = t232 then (if t231 = t233 then ((lexpriorplain_SameBytes.f k bt234.1 bt238.1).bind fun t243 => (if t243 = true then ((lexpriorlaw21_num.f bt234.2).bind fun t244 => (if t244 = bt238.2 then ((lexpriorplain_SameSteps.f k t227 l0).bind fun t245 => (if t245 = true then ((lexpriorlaw21_alive.f k).bind fun t246 => (some t246)) else (some false))) else (some false))) else (some false))) else (some false)) else (some false))))) = some r := H
  have A4 := Aside0.mk A40
  clear A40
  replace H := Option.bind_eq_some_iff.mp H
  obtain ⟨⟨t234, t235⟩, A50, H⟩ := H
  replace H : ((lexpriorref21_Encode.f k l0).bind fun bt238 => ((lexpriorlaw21_num.f t230).bind fun t242 => (if t242 = t232 then (if t231 = t233 then ((lexpriorplain_SameBytes.f k t234 bt238.1).bind fun t243 => (if t243 = true then ((lexpriorlaw21_num.f t235).bind fun t244 => (if t244 = bt238.2 then ((lexpriorplain_SameSteps.f k t227 l0).bind fun t245 => (if t245 = true then ((lexpriorlaw21_alive.f k).bind fun t246 => (some t246)) else (some false))) else (some false))) else (some false))) else (some false)) else (some false)))) = some r := H
  have A5 := Aside0.mk A50
  clear A50
  replace H := Option.bind_eq_some_iff.mp H
  obtain ⟨⟨t238, t239⟩, A60, H⟩ := H
  replace H : ((lexpriorlaw21_num.f t230).bind fun t242 => (if t242 = t232 then (if t231 = t233 then ((lexpriorplain_SameBytes.f k t234 t238).bind fun t243 => (if t243 = true then ((lexpriorlaw21_num.f t235).bind fun t244 => (if t244 = t239 then ((lexpriorplain_SameSteps.f k t227 l0).bind fun t245 => (if t245 = true then ((lexpriorlaw21_alive.f k).bind fun t246 => (some t246)) else (some false))) else (some false))) else (some false))) else (some false)) else (some false))) = some r := H
  have A6 := Aside0.mk A60
  clear A60
  replace H := Option.bind_eq_some_iff.mp H
  obtain ⟨t242, A70, H⟩ := H
  replace H : (if t242 = t232 then (if t231 = t233 then ((lexpriorplain_SameBytes.f k t234 t238).bind fun t243 => (if t243 = true then ((lexpriorlaw21_num.f t235).bind fun t244 => (if t244 = t239 then ((lexpriorplain_SameSteps.f k t227 l0).bind fun t245 => (if t245 = true then ((lexpriorlaw21_alive.f k).bind fun t246 => (some t246)) else (some false))) else (some false))) else (some false))) else (some false)) else (some false)) = some r := H
  have A7 := Aside0.mk A70
  clear A70
  by_cases c8 : t242 = t232
  · rw [if_pos c8] at H
    have c8b0 : (t242 == t232) = true := beq_iff_eq.mpr c8
    have c8b1 : (t242 != t232) = false := bne_eq_false_iff_eq.mpr c8
    clear c8
    by_cases c9 : t231 = t233
    · rw [if_pos c9] at H
      have c9b0 : (t231 == t233) = true := beq_iff_eq.mpr c9
      have c9b1 : (t231 != t233) = false := bne_eq_false_iff_eq.mpr c9
      clear c9
      replace H := Option.bind_eq_some_iff.mp H
      obtain ⟨t243, A100, H⟩ := H
      replace H : (if t243 = true then ((lexpriorlaw21_num.f t235).bind fun t244 => (if t244 = t239 then ((lexpriorplain_SameSteps.f k t227 l0).bind fun t245 => (if t245 = true then ((lexpriorlaw21_alive.f k).bind fun t246 => (some t246)) else (some false))) else (some false))) else (some false)) = some r := H
      have A10 := Aside0.mk A100
      clear A100
      by_cases c11 : t243 = true
      · subst c11
        have H1 : ((lexpriorlaw21_num.f t235).bind fun t244 => (if t244 = t239 then ((lexpriorplain_SameSteps.f k t227 l0).bind fun t245 => (if t245 = true then ((lexpriorlaw21_alive.f k).bind fun t246 => (some t246)) else (some false))) else (some false))) = some r := by rw [if_pos rfl] at H; exact H
        clear H
        have H := H1
        clear H1
        replace H := Option.bind_eq_some_iff.mp H
        obtain ⟨t244, A120, H⟩ := H
        replace H : (if t244 = t239 then ((lexpriorplain_SameSteps.f k t227 l0).bind fun t245 => (if t245 = true then ((lexpriorlaw21_alive.f k).bind fun t246 => (some t246)) else (some false))) else (some false)) = some r := H
        have A12 := Aside0.mk A120
        clear A120
        by_cases c13 : t244 = t239
        · rw [if_pos c13] at H
          have c13b0 : (t244 == t239) = true := beq_iff_eq.mpr c13
          have c13b1 : (t244 != t239) = false := bne_eq_false_iff_eq.mpr c13
          clear c13
          replace H := Option.bind_eq_some_iff.mp H
          obtain ⟨t245, A140, H⟩ := H
          replace H : (if t245 = true then ((lexpriorlaw21_alive.f k).bind fun t246 => (some t246)) else (some false)) = some r := H
          have A14 := Aside0.mk A140
          clear A140
          by_cases c15 : t245 = true
          · subst c15
            have H1 : ((lexpriorlaw21_alive.f k).bind fun t246 => (some t246)) = some r := by rw [if_pos rfl] at H; exact H
            clear H
            have H := H1
            clear H1
            replace H := Option.bind_eq_some_iff.mp H
            obtain ⟨t246, A160, H⟩ := H
            replace H : (some t246) = some r := H
            have A16 := Aside0.mk A160
            clear A160
            obtain rfl := Option.some.inj H
            go_enter Try.func3, Try.ntmps3
            go_wp2_with (first | ((with_reducible refine gate_callee (f := 8) rfl ?_); refine goesL_ (some 13) rfl rfl Try.func8 (by kernel_rfl) rfl #[.slice A0 l0.length c0] rfl (by (try simp only [List.map_toArray, List.map_cons, List.map_nil]); first | done | rfl | (simp only [List.length_drop, List.length_take]; rfl)) ?_; (with_reducible refine (lexpriorplain_CopySteps.calls k _ _ l0 t227 _ ?side1 ?side2 A2.out).mono ?_); (case side1 => repeat (first | exact HR0.out | (with_reducible refine Kd.C_alloc ?_ _) | (with_reducible refine Kd.C_drewN ?_ _) | (with_reducible refine Kd.C_drew ?_))); (case side2 => exact HC0.out); rintro e w17 ⟨v228, rfl, ho0, hb⟩; refine ⟨_, rfl, ?_⟩; have n0_ := Aside0.mk (Kd.S_lower ho0 (below_size (by repeat (first | (with_reducible first | exact HB.out | apply below_alloc | apply pw_below_drewN | apply below_drew1) | exact HB.out)))); have n1_ := Aside0.mk (below_step (by repeat (first | (with_reducible first | exact HB.out | apply below_alloc | apply pw_below_drewN | apply below_drew1) | exact HB.out)) hb); clear HB; have HO229 := n0_; have HB := n1_; clear n0_ n1_; (try clear hb); (try clear hb2); (try clear hk); (try clear hi); (try clear ho0); obtain ⟨Ao18, co18, eo18⟩ := Kd.S_slice HO229.out; subst eo18) | ((with_reducible refine gate_callee (f := 9) rfl ?_); refine goesL_ (some 16) rfl rfl Try.func9 (by kernel_rfl) rfl #[.slice Ao18 t227.length co18] rfl (by (try simp only [List.map_toArray, List.map_cons, List.map_nil]); first | done | rfl | (simp only [List.length_drop, List.length_take]; rfl)) ?_; (with_reducible refine (wire_Check.calls k _ _ t227 t230 t231 _ ?side1 ?side2 A3.out).mono ?_); (case side1 => repeat (first | exact (Kd.S_reads' HO229.out).2.2 | (with_reducible refine Kd.C_alloc ?_ _) | (with_reducible refine Kd.C_drewN ?_ _) | (with_reducible refine Kd.C_drew ?_))); (case side2 => exact (Kd.S_reads' HO229.out).2.1); rintro e w19 ⟨rfl, hb⟩; refine ⟨_, rfl, ?_⟩; have n0_ := Aside0.mk (Kd.S_below (by (with_reducible repeat (first | apply Kd.S_alloc | apply Kd.S_drewN | apply Kd.S_drew)); exact HO229.out) hb); have n1_ := Aside0.mk (below_step (by repeat (first | (with_reducible first | exact HB.out | apply below_alloc | apply pw_below_drewN | apply below_drew1) | exact HB.out)) hb); clear HO229; clear HB; have HO229 := n0_; have HB := n1_; clear n0_ n1_; (try clear hb); (try clear hb2); (try clear hk); (try clear hi)) | ((with_reducible refine gate_callee (f := 10) rfl ?_); refine goesL_ (some 21) rfl rfl Try.func10 (by kernel_rfl) rfl #[.slice A0 l0.length c0] rfl (by (try simp only [List.map_toArray, List.map_cons, List.map_nil]); first | done | rfl | (simp only [List.length_drop, List.length_take]; rfl)) ?_; (with_reducible refine (lexpriorref21_Check.calls k _ _ l0 t232 t233 _ ?side1 ?side2 A4.out).mono ?_); (case side1 => repeat (first | exact (Kd.C_below HR0.out HB.out) | (with_reducible refine Kd.C_alloc ?_ _) | (with_reducible refine Kd.C_drewN ?_ _) | (with_reducible refine Kd.C_drew ?_))); (case side2 => exact HC0.out); rintro e w20 ⟨rfl, hb⟩; refine ⟨_, rfl, ?_⟩; have n0_ := Aside0.mk (Kd.S_below (by (with_reducible repeat (first | apply Kd.S_alloc | apply Kd.S_drewN | apply Kd.S_drew)); exact HO229.out) hb); have n1_ := Aside0.mk (below_step (by repeat (first | (with_reducible first | exact HB.out | apply below_alloc | apply pw_below_drewN | apply below_drew1) | exact HB.out)) hb); clear HO229; clear HB; have HO229 := n0_; have HB := n1_; clear n0_ n1_; (try clear hb); (try clear hb2); (try clear hk); (try clear hi)) | ((with_reducible refine gate_callee (f := 11) rfl ?_); refine goesL_ (some 26) rfl rfl Try.func11 (by kernel_rfl) rfl #[.slice Ao18 t227.length co18] rfl (by (try simp only [List.map_toArray, List.map_cons, List.map_nil]); first | done | rfl | (simp only [List.length_drop, List.length_take]; rfl)) ?_; (with_reducible refine (wire_Encode.calls k _ _ t227 t234 t235 _ ?side1 ?side2 A5.out).mono ?_); (case side1 => repeat (first | exact (Kd.S_reads' HO229.out).2.2 | (with_reducible refine Kd.C_alloc ?_ _) | (with_reducible refine Kd.C_drewN ?_ _) | (with_reducible refine Kd.C_drew ?_))); (case side2 => exact (Kd.S_reads' HO229.out).2.1); rintro e w21 ⟨v236, rfl, ho0, hb⟩; refine ⟨_, rfl, ?_⟩; have n0_ := Aside0.mk (Kd.S_below (by (with_reducible repeat (first | apply Kd.S_alloc | apply Kd.S_drewN | apply Kd.S_drew)); exact HO229.out) hb); have n1_ := Aside0.mk (Kd.R_lower ho0 (below_size (by repeat (first | (with_reducible first | exact HB.out | apply below_alloc | apply pw_below_drewN | apply below_drew1) | exact HB.out)))); have n2_ := Aside0.mk (below_step (by repeat (first | (with_reducible first | exact HB.out | apply below_alloc | apply pw_below_drewN | apply below_drew1) | exact HB.out)) hb); clear HO229; clear HB; have HO229 := n0_; have HO237 := n1_; have HB := n2_; clear n0_ n1_ n2_; (try clear hb); (try clear hb2); (try clear hk); (try clear hi); (try clear ho0)) | ((with_reducible refine gate_callee (f := 12) rfl ?_); refine goesL_ (some 31) rfl rfl Try.func12 (by kernel_rfl) rfl #[.slice A0 l0.length c0] rfl (by (try simp only [List.map_toArray, List.map_cons, List.map_nil]); first | done | rfl | (simp only [List.length_drop, List.length_take]; rfl)) ?_; (with_reducible refine (lexpriorref21_Encode.calls k _ _ l0 t238 t239 _ ?side1 ?side2 A6.out).mono ?_); (case side1 => repeat (first | exact (Kd.C_below HR0.out HB.out) | (with_reducible refine Kd.C_alloc ?_ _) | (with_reducible refine Kd.C_drewN ?_ _) | (with_reducible refine Kd.C_drew ?_))); (case side2 => exact HC0.out); rintro e w22 ⟨v240, rfl, ho0, hb⟩; refine ⟨_, rfl, ?_⟩; have n0_ := Aside0.mk (Kd.S_below (by (with_reducible repeat (first | apply Kd.S_alloc | apply Kd.S_drewN | apply Kd.S_drew)); exact HO229.out) hb); have n1_ := Aside0.mk (Kd.R_elder' (by (with_reducible repeat (first | apply Kd.R_alloc | apply Kd.R_drewN | apply Kd.R_drew)); exact HO237.out) (Kd.R_base ho0) hb); have n2_ := Aside0.mk (Kd.R_lower (Kd.R_new' ho0 (Kd.R_lt (by (with_reducible repeat (first | apply Kd.R_alloc | apply Kd.R_drewN | apply Kd.R_drew)); exact HO237.out))) (below_size (by repeat (first | (with_reducible first | exact HB.out | apply below_alloc | apply pw_below_drewN | apply below_drew1) | exact HB.out)))); have n3_ := Aside0.mk (below_step (by repeat (first | (with_reducible first | exact HB.out | apply below_alloc | apply pw_below_drewN | apply below_drew1) | exact HB.out)) hb); clear HO229; clear HO237; clear HB; have HO229 := n0_; have HO237 := n1_; have HO241 := n2_; have HB := n3_; clear n0_ n1_ n2_ n3_; (try clear hb); (try clear hb2); (try clear hk); (try clear hi); (try clear ho0)) | ((with_reducible refine gate_callee (f := 13) rfl ?_); refine goesL_ (some 35) rfl rfl Try.func13 (by kernel_rfl) rfl #[.int .i64 t230] rfl (by (try simp only [List.map_toArray, List.map_cons, List.map_nil]); first | done | rfl | (simp only [List.length_drop, List.length_take]; rfl)) ?_; (with_reducible refine (lexpriorlaw21_num.calls t230 t242 _ A7.out).mono ?_); rintro e w' ⟨rfl, ⟨nd, rfl⟩⟩; refine ⟨_, rfl, ?_⟩; obtain ⟨Ao23, co23, eo23⟩ := Kd.R_slice HO237.out; subst eo23; obtain ⟨Ao24, co24, eo24⟩ := Kd.R_slice HO241.out; subst eo24) | (go_at_call 14; (with_reducible refine (lexpriorplain_SameBytes.calls k _ _ t234 _ _ t238 true _ ?side1 ?side2 ?side3 ?side4 A10.out).mono ?_); (case side1 => repeat (first | exact (Kd.R_reads' HO237.out).2.2 | (with_reducible refine Kd.C_alloc ?_ _) | (with_reducible refine Kd.C_drewN ?_ _) | (with_reducible refine Kd.C_drew ?_))); (case side2 => exact (Kd.R_reads' HO237.out).2.1); (case side3 => repeat (first | exact (Kd.R_reads' HO241.out).2.2 | (with_reducible refine Kd.C_alloc ?_ _) | (with_reducible refine Kd.C_drewN ?_ _) | (with_reducible refine Kd.C_drew ?_))); (case side4 => exact (Kd.R_reads' HO241.out).2.1); rintro e w' ⟨rfl, ⟨nd, rfl⟩⟩) | (go_at_call 13; (with_reducible refine (lexpriorlaw21_num.calls t235 t244 _ A12.out).mono ?_); rintro e w' ⟨rfl, ⟨nd, rfl⟩⟩) | (go_at_call 15; (with_reducible refine (lexpriorplain_SameSteps.calls k _ _ t227 _ _ l0 true _ ?side1 ?side2 ?side3 ?side4 A14.out).mono ?_); (case side1 => repeat (first | exact (Kd.S_reads' HO229.out).2.2 | (with_reducible refine Kd.C_alloc ?_ _) | (with_reducible refine Kd.C_drewN ?_ _) | (with_reducible refine Kd.C_drew ?_))); (case side2 => exact (Kd.S_reads' HO229.out).2.1); (case side3 => repeat (first | exact (Kd.C_below HR0.out (by repeat (first | (with_reducible first | exact HB.out | apply below_alloc | apply pw_below_drewN | apply below_drew1) | exact HB.out))) | (with_reducible refine Kd.C_alloc ?_ _) | (with_reducible refine Kd.C_drewN ?_ _) | (with_reducible refine Kd.C_drew ?_))); (case side4 => exact HC0.out); rintro e w25 ⟨rfl, hb⟩; have n0_ := Aside0.mk (Kd.S_below (by (with_reducible repeat (first | apply Kd.S_alloc | apply Kd.S_drewN | apply Kd.S_drew)); exact HO229.out) hb); have n1_ := Aside0.mk (Kd.R_below (by (with_reducible repeat (first | apply Kd.R_alloc | apply Kd.R_drewN | apply Kd.R_drew)); exact HO237.out) hb); have n2_ := Aside0.mk (Kd.R_below (by (with_reducible repeat (first | apply Kd.R_alloc | apply Kd.R_drewN | apply Kd.R_drew)); exact HO241.out) hb); have n3_ := Aside0.mk (below_step (by repeat (first | (with_reducible first | exact HB.out | apply below_alloc | apply pw_below_drewN | apply below_drew1) | exact HB.out)) hb); clear HO229; clear HO237; clear HO241; clear HB; have HO229 := n0_; have HO237 := n1_; have HO241 := n2_; have HB := n3_; clear n0_ n1_ n2_ n3_; (try clear hb); (try clear hb2); (try clear hk); (try clear hi)) | (go_at_call 16; (with_reducible refine (lexpriorlaw21_alive.calls k  t246 _ A16.out).mono ?_); rintro e w26 ⟨rfl, hb⟩; have n0_ := Aside0.mk (Kd.S_below (by (with_reducible repeat (first | apply Kd.S_alloc | apply Kd.S_drewN | apply Kd.S_drew)); exact HO229.out) hb); have n1_ := Aside0.mk (Kd.R_below (by (with_reducible repeat (first | apply Kd.R_alloc | apply Kd.R_drewN | apply Kd.R_drew)); exact HO237.out) hb); have n2_ := Aside0.mk (Kd.R_below (by (with_reducible repeat (first | apply Kd.R_alloc | apply Kd.R_drewN | apply Kd.R_drew)); exact HO241.out) hb); have n3_ := Aside0.mk (below_step (by repeat (first | (with_reducible first | exact HB.out | apply below_alloc | apply pw_below_drewN | apply below_drew1) | exact HB.out)) hb); clear HO229; clear HO237; clear HO241; clear HB; have HO229 := n0_; have HO237 := n1_; have HO241 := n2_; have HB := n3_; clear n0_ n1_ n2_ n3_; (try clear hb); (try clear hb2); (try clear hk); (try clear hi)))
            go_ret
            exact ⟨by first | rfl | (simp [errW_none, errW_some] <;> rfl) | (simp [*, errW_none, errW_some] <;> rfl), by repeat (first | (with_reducible first | exact HB.out | apply below_alloc | apply pw_below_drewN | apply below_drew1) | exact HB.out)⟩
          · replace c15 := Bool.eq_false_iff.mpr c15
            subst c15
            have H1 : (some false) = some r := by rw [if_neg (show ¬ (false = true) by decide)] at H; exact H
            clear H
            have H := H1
            clear H1
            obtain rfl := Option.some.inj H
            go_enter Try.func3, Try.ntmps3
            go_wp2_with (first | ((with_reducible refine gate_callee (f := 8) rfl ?_); refine goesL_ (some 13) rfl rfl Try.func8 (by kernel_rfl) rfl #[.slice A0 l0.length c0] rfl (by (try simp only [List.map_toArray, List.map_cons, List.map_nil]); first | done | rfl | (simp only [List.length_drop, List.length_take]; rfl)) ?_; (with_reducible refine (lexpriorplain_CopySteps.calls k _ _ l0 t227 _ ?side1 ?side2 A2.out).mono ?_); (case side1 => repeat (first | exact HR0.out | (with_reducible refine Kd.C_alloc ?_ _) | (with_reducible refine Kd.C_drewN ?_ _) | (with_reducible refine Kd.C_drew ?_))); (case side2 => exact HC0.out); rintro e w27 ⟨v228, rfl, ho0, hb⟩; refine ⟨_, rfl, ?_⟩; have n0_ := Aside0.mk (Kd.S_lower ho0 (below_size (by repeat (first | (with_reducible first | exact HB.out | apply below_alloc | apply pw_below_drewN | apply below_drew1) | exact HB.out)))); have n1_ := Aside0.mk (below_step (by repeat (first | (with_reducible first | exact HB.out | apply below_alloc | apply pw_below_drewN | apply below_drew1) | exact HB.out)) hb); clear HB; have HO229 := n0_; have HB := n1_; clear n0_ n1_; (try clear hb); (try clear hb2); (try clear hk); (try clear hi); (try clear ho0); obtain ⟨Ao28, co28, eo28⟩ := Kd.S_slice HO229.out; subst eo28) | ((with_reducible refine gate_callee (f := 9) rfl ?_); refine goesL_ (some 16) rfl rfl Try.func9 (by kernel_rfl) rfl #[.slice Ao28 t227.length co28] rfl (by (try simp only [List.map_toArray, List.map_cons, List.map_nil]); first | done | rfl | (simp only [List.length_drop, List.length_take]; rfl)) ?_; (with_reducible refine (wire_Check.calls k _ _ t227 t230 t231 _ ?side1 ?side2 A3.out).mono ?_); (case side1 => repeat (first | exact (Kd.S_reads' HO229.out).2.2 | (with_reducible refine Kd.C_alloc ?_ _) | (with_reducible refine Kd.C_drewN ?_ _) | (with_reducible refine Kd.C_drew ?_))); (case side2 => exact (Kd.S_reads' HO229.out).2.1); rintro e w29 ⟨rfl, hb⟩; refine ⟨_, rfl, ?_⟩; have n0_ := Aside0.mk (Kd.S_below (by (with_reducible repeat (first | apply Kd.S_alloc | apply Kd.S_drewN | apply Kd.S_drew)); exact HO229.out) hb); have n1_ := Aside0.mk (below_step (by repeat (first | (with_reducible first | exact HB.out | apply below_alloc | apply pw_below_drewN | apply below_drew1) | exact HB.out)) hb); clear HO229; clear HB; have HO229 := n0_; have HB := n1_; clear n0_ n1_; (try clear hb); (try clear hb2); (try clear hk); (try clear hi)) | ((with_reducible refine gate_callee (f := 10) rfl ?_); refine goesL_ (some 21) rfl rfl Try.func10 (by kernel_rfl) rfl #[.slice A0 l0.length c0] rfl (by (try simp only [List.map_toArray, List.map_cons, List.map_nil]); first | done | rfl | (simp only [List.length_drop, List.length_take]; rfl)) ?_; (with_reducible refine (lexpriorref21_Check.calls k _ _ l0 t232 t233 _ ?side1 ?side2 A4.out).mono ?_); (case side1 => repeat (first | exact (Kd.C_below HR0.out HB.out) | (with_reducible refine Kd.C_alloc ?_ _) | (with_reducible refine Kd.C_drewN ?_ _) | (with_reducible refine Kd.C_drew ?_))); (case side2 => exact HC0.out); rintro e w30 ⟨rfl, hb⟩; refine ⟨_, rfl, ?_⟩; have n0_ := Aside0.mk (Kd.S_below (by (with_reducible repeat (first | apply Kd.S_alloc | apply Kd.S_drewN | apply Kd.S_drew)); exact HO229.out) hb); have n1_ := Aside0.mk (below_step (by repeat (first | (with_reducible first | exact HB.out | apply below_alloc | apply pw_below_drewN | apply below_drew1) | exact HB.out)) hb); clear HO229; clear HB; have HO229 := n0_; have HB := n1_; clear n0_ n1_; (try clear hb); (try clear hb2); (try clear hk); (try clear hi)) | ((with_reducible refine gate_callee (f := 11) rfl ?_); refine goesL_ (some 26) rfl rfl Try.func11 (by kernel_rfl) rfl #[.slice Ao28 t227.length co28] rfl (by (try simp only [List.map_toArray, List.map_cons, List.map_nil]); first | done | rfl | (simp only [List.length_drop, List.length_take]; rfl)) ?_; (with_reducible refine (wire_Encode.calls k _ _ t227 t234 t235 _ ?side1 ?side2 A5.out).mono ?_); (case side1 => repeat (first | exact (Kd.S_reads' HO229.out).2.2 | (with_reducible refine Kd.C_alloc ?_ _) | (with_reducible refine Kd.C_drewN ?_ _) | (with_reducible refine Kd.C_drew ?_))); (case side2 => exact (Kd.S_reads' HO229.out).2.1); rintro e w31 ⟨v236, rfl, ho0, hb⟩; refine ⟨_, rfl, ?_⟩; have n0_ := Aside0.mk (Kd.S_below (by (with_reducible repeat (first | apply Kd.S_alloc | apply Kd.S_drewN | apply Kd.S_drew)); exact HO229.out) hb); have n1_ := Aside0.mk (Kd.R_lower ho0 (below_size (by repeat (first | (with_reducible first | exact HB.out | apply below_alloc | apply pw_below_drewN | apply below_drew1) | exact HB.out)))); have n2_ := Aside0.mk (below_step (by repeat (first | (with_reducible first | exact HB.out | apply below_alloc | apply pw_below_drewN | apply below_drew1) | exact HB.out)) hb); clear HO229; clear HB; have HO229 := n0_; have HO237 := n1_; have HB := n2_; clear n0_ n1_ n2_; (try clear hb); (try clear hb2); (try clear hk); (try clear hi); (try clear ho0)) | ((with_reducible refine gate_callee (f := 12) rfl ?_); refine goesL_ (some 31) rfl rfl Try.func12 (by kernel_rfl) rfl #[.slice A0 l0.length c0] rfl (by (try simp only [List.map_toArray, List.map_cons, List.map_nil]); first | done | rfl | (simp only [List.length_drop, List.length_take]; rfl)) ?_; (with_reducible refine (lexpriorref21_Encode.calls k _ _ l0 t238 t239 _ ?side1 ?side2 A6.out).mono ?_); (case side1 => repeat (first | exact (Kd.C_below HR0.out HB.out) | (with_reducible refine Kd.C_alloc ?_ _) | (with_reducible refine Kd.C_drewN ?_ _) | (with_reducible refine Kd.C_drew ?_))); (case side2 => exact HC0.out); rintro e w32 ⟨v240, rfl, ho0, hb⟩; refine ⟨_, rfl, ?_⟩; have n0_ := Aside0.mk (Kd.S_below (by (with_reducible repeat (first | apply Kd.S_alloc | apply Kd.S_drewN | apply Kd.S_drew)); exact HO229.out) hb); have n1_ := Aside0.mk (Kd.R_elder' (by (with_reducible repeat (first | apply Kd.R_alloc | apply Kd.R_drewN | apply Kd.R_drew)); exact HO237.out) (Kd.R_base ho0) hb); have n2_ := Aside0.mk (Kd.R_lower (Kd.R_new' ho0 (Kd.R_lt (by (with_reducible repeat (first | apply Kd.R_alloc | apply Kd.R_drewN | apply Kd.R_drew)); exact HO237.out))) (below_size (by repeat (first | (with_reducible first | exact HB.out | apply below_alloc | apply pw_below_drewN | apply below_drew1) | exact HB.out)))); have n3_ := Aside0.mk (below_step (by repeat (first | (with_reducible first | exact HB.out | apply below_alloc | apply pw_below_drewN | apply below_drew1) | exact HB.out)) hb); clear HO229; clear HO237; clear HB; have HO229 := n0_; have HO237 := n1_; have HO241 := n2_; have HB := n3_; clear n0_ n1_ n2_ n3_; (try clear hb); (try clear hb2); (try clear hk); (try clear hi); (try clear ho0)) | ((with_reducible refine gate_callee (f := 13) rfl ?_); refine goesL_ (some 35) rfl rfl Try.func13 (by kernel_rfl) rfl #[.int .i64 t230] rfl (by (try simp only [List.map_toArray, List.map_cons, List.map_nil]); first | done | rfl | (simp only [List.length_drop, List.length_take]; rfl)) ?_; (with_reducible refine (lexpriorlaw21_num.calls t230 t242 _ A7.out).mono ?_); rintro e w' ⟨rfl, ⟨nd, rfl⟩⟩; refine ⟨_, rfl, ?_⟩; obtain ⟨Ao33, co33, eo33⟩ := Kd.R_slice HO237.out; subst eo33; obtain ⟨Ao34, co34, eo34⟩ := Kd.R_slice HO241.out; subst eo34) | (go_at_call 14; (with_reducible refine (lexpriorplain_SameBytes.calls k _ _ t234 _ _ t238 true _ ?side1 ?side2 ?side3 ?side4 A10.out).mono ?_); (case side1 => repeat (first | exact (Kd.R_reads' HO237.out).2.2 | (with_reducible refine Kd.C_alloc ?_ _) | (with_reducible refine Kd.C_drewN ?_ _) | (with_reducible refine Kd.C_drew ?_))); (case side2 => exact (Kd.R_reads' HO237.out).2.1); (case side3 => repeat (first | exact (Kd.R_reads' HO241.out).2.2 | (with_reducible refine Kd.C_alloc ?_ _) | (with_reducible refine Kd.C_drewN ?_ _) | (with_reducible refine Kd.C_drew ?_))); (case side4 => exact (Kd.R_reads' HO241.out).2.1); rintro e w' ⟨rfl, ⟨nd, rfl⟩⟩) | (go_at_call 13; (with_reducible refine (lexpriorlaw21_num.calls t235 t244 _ A12.out).mono ?_); rintro e w' ⟨rfl, ⟨nd, rfl⟩⟩) | (go_at_call 15; (with_reducible refine (lexpriorplain_SameSteps.calls k _ _ t227 _ _ l0 false _ ?side1 ?side2 ?side3 ?side4 A14.out).mono ?_); (case side1 => repeat (first | exact (Kd.S_reads' HO229.out).2.2 | (with_reducible refine Kd.C_alloc ?_ _) | (with_reducible refine Kd.C_drewN ?_ _) | (with_reducible refine Kd.C_drew ?_))); (case side2 => exact (Kd.S_reads' HO229.out).2.1); (case side3 => repeat (first | exact (Kd.C_below HR0.out (by repeat (first | (with_reducible first | exact HB.out | apply below_alloc | apply pw_below_drewN | apply below_drew1) | exact HB.out))) | (with_reducible refine Kd.C_alloc ?_ _) | (with_reducible refine Kd.C_drewN ?_ _) | (with_reducible refine Kd.C_drew ?_))); (case side4 => exact HC0.out); rintro e w35 ⟨rfl, hb⟩; have n0_ := Aside0.mk (Kd.S_below (by (with_reducible repeat (first | apply Kd.S_alloc | apply Kd.S_drewN | apply Kd.S_drew)); exact HO229.out) hb); have n1_ := Aside0.mk (Kd.R_below (by (with_reducible repeat (first | apply Kd.R_alloc | apply Kd.R_drewN | apply Kd.R_drew)); exact HO237.out) hb); have n2_ := Aside0.mk (Kd.R_below (by (with_reducible repeat (first | apply Kd.R_alloc | apply Kd.R_drewN | apply Kd.R_drew)); exact HO241.out) hb); have n3_ := Aside0.mk (below_step (by repeat (first | (with_reducible first | exact HB.out | apply below_alloc | apply pw_below_drewN | apply below_drew1) | exact HB.out)) hb); clear HO229; clear HO237; clear HO241; clear HB; have HO229 := n0_; have HO237 := n1_; have HO241 := n2_; have HB := n3_; clear n0_ n1_ n2_ n3_; (try clear hb); (try clear hb2); (try clear hk); (try clear hi)))
            go_ret
            exact ⟨by first | rfl | (simp [errW_none, errW_some] <;> rfl) | (simp [*, errW_none, errW_some] <;> rfl), by repeat (first | (with_reducible first | exact HB.out | apply below_alloc | apply pw_below_drewN | apply below_drew1) | exact HB.out)⟩
        · rw [if_neg c13] at H
          have c13b0 : (t244 == t239) = false := beq_eq_false_iff_ne.mpr c13
          have c13b1 : (t244 != t239) = true := bne_iff_ne.mpr c13
          obtain rfl := Option.some.inj H
          go_enter Try.func3, Try.ntmps3
          go_wp2_with (first | ((with_reducible refine gate_callee (f := 8) rfl ?_); refine goesL_ (some 13) rfl rfl Try.func8 (by kernel_rfl) rfl #[.slice A0 l0.length c0] rfl (by (try simp only [List.map_toArray, List.map_cons, List.map_nil]); first | done | rfl | (simp only [List.length_drop, List.length_take]; rfl)) ?_; (with_reducible refine (lexpriorplain_CopySteps.calls k _ _ l0 t227 _ ?side1 ?side2 A2.out).mono ?_); (case side1 => repeat (first | exact HR0.out | (with_reducible refine Kd.C_alloc ?_ _) | (with_reducible refine Kd.C_drewN ?_ _) | (with_reducible refine Kd.C_drew ?_))); (case side2 => exact HC0.out); rintro e w36 ⟨v228, rfl, ho0, hb⟩; refine ⟨_, rfl, ?_⟩; have n0_ := Aside0.mk (Kd.S_lower ho0 (below_size (by repeat (first | (with_reducible first | exact HB.out | apply below_alloc | apply pw_below_drewN | apply below_drew1) | exact HB.out)))); have n1_ := Aside0.mk (below_step (by repeat (first | (with_reducible first | exact HB.out | apply below_alloc | apply pw_below_drewN | apply below_drew1) | exact HB.out)) hb); clear HB; have HO229 := n0_; have HB := n1_; clear n0_ n1_; (try clear hb); (try clear hb2); (try clear hk); (try clear hi); (try clear ho0); obtain ⟨Ao37, co37, eo37⟩ := Kd.S_slice HO229.out; subst eo37) | ((with_reducible refine gate_callee (f := 9) rfl ?_); refine goesL_ (some 16) rfl rfl Try.func9 (by kernel_rfl) rfl #[.slice Ao37 t227.length co37] rfl (by (try simp only [List.map_toArray, List.map_cons, List.map_nil]); first | done | rfl | (simp only [List.length_drop, List.length_take]; rfl)) ?_; (with_reducible refine (wire_Check.calls k _ _ t227 t230 t231 _ ?side1 ?side2 A3.out).mono ?_); (case side1 => repeat (first | exact (Kd.S_reads' HO229.out).2.2 | (with_reducible refine Kd.C_alloc ?_ _) | (with_reducible refine Kd.C_drewN ?_ _) | (with_reducible refine Kd.C_drew ?_))); (case side2 => exact (Kd.S_reads' HO229.out).2.1); rintro e w38 ⟨rfl, hb⟩; refine ⟨_, rfl, ?_⟩; have n0_ := Aside0.mk (Kd.S_below (by (with_reducible repeat (first | apply Kd.S_alloc | apply Kd.S_drewN | apply Kd.S_drew)); exact HO229.out) hb); have n1_ := Aside0.mk (below_step (by repeat (first | (with_reducible first | exact HB.out | apply below_alloc | apply pw_below_drewN | apply below_drew1) | exact HB.out)) hb); clear HO229; clear HB; have HO229 := n0_; have HB := n1_; clear n0_ n1_; (try clear hb); (try clear hb2); (try clear hk); (try clear hi)) | ((with_reducible refine gate_callee (f := 10) rfl ?_); refine goesL_ (some 21) rfl rfl Try.func10 (by kernel_rfl) rfl #[.slice A0 l0.length c0] rfl (by (try simp only [List.map_toArray, List.map_cons, List.map_nil]); first | done | rfl | (simp only [List.length_drop, List.length_take]; rfl)) ?_; (with_reducible refine (lexpriorref21_Check.calls k _ _ l0 t232 t233 _ ?side1 ?side2 A4.out).mono ?_); (case side1 => repeat (first | exact (Kd.C_below HR0.out HB.out) | (with_reducible refine Kd.C_alloc ?_ _) | (with_reducible refine Kd.C_drewN ?_ _) | (with_reducible refine Kd.C_drew ?_))); (case side2 => exact HC0.out); rintro e w39 ⟨rfl, hb⟩; refine ⟨_, rfl, ?_⟩; have n0_ := Aside0.mk (Kd.S_below (by (with_reducible repeat (first | apply Kd.S_alloc | apply Kd.S_drewN | apply Kd.S_drew)); exact HO229.out) hb); have n1_ := Aside0.mk (below_step (by repeat (first | (with_reducible first | exact HB.out | apply below_alloc | apply pw_below_drewN | apply below_drew1) | exact HB.out)) hb); clear HO229; clear HB; have HO229 := n0_; have HB := n1_; clear n0_ n1_; (try clear hb); (try clear hb2); (try clear hk); (try clear hi)) | ((with_reducible refine gate_callee (f := 11) rfl ?_); refine goesL_ (some 26) rfl rfl Try.func11 (by kernel_rfl) rfl #[.slice Ao37 t227.length co37] rfl (by (try simp only [List.map_toArray, List.map_cons, List.map_nil]); first | done | rfl | (simp only [List.length_drop, List.length_take]; rfl)) ?_; (with_reducible refine (wire_Encode.calls k _ _ t227 t234 t235 _ ?side1 ?side2 A5.out).mono ?_); (case side1 => repeat (first | exact (Kd.S_reads' HO229.out).2.2 | (with_reducible refine Kd.C_alloc ?_ _) | (with_reducible refine Kd.C_drewN ?_ _) | (with_reducible refine Kd.C_drew ?_))); (case side2 => exact (Kd.S_reads' HO229.out).2.1); rintro e w40 ⟨v236, rfl, ho0, hb⟩; refine ⟨_, rfl, ?_⟩; have n0_ := Aside0.mk (Kd.S_below (by (with_reducible repeat (first | apply Kd.S_alloc | apply Kd.S_drewN | apply Kd.S_drew)); exact HO229.out) hb); have n1_ := Aside0.mk (Kd.R_lower ho0 (below_size (by repeat (first | (with_reducible first | exact HB.out | apply below_alloc | apply pw_below_drewN | apply below_drew1) | exact HB.out)))); have n2_ := Aside0.mk (below_step (by repeat (first | (with_reducible first | exact HB.out | apply below_alloc | apply pw_below_drewN | apply below_drew1) | exact HB.out)) hb); clear HO229; clear HB; have HO229 := n0_; have HO237 := n1_; have HB := n2_; clear n0_ n1_ n2_; (try clear hb); (try clear hb2); (try clear hk); (try clear hi); (try clear ho0)) | ((with_reducible refine gate_callee (f := 12) rfl ?_); refine goesL_ (some 31) rfl rfl Try.func12 (by kernel_rfl) rfl #[.slice A0 l0.length c0] rfl (by (try simp only [List.map_toArray, List.map_cons, List.map_nil]); first | done | rfl | (simp only [List.length_drop, List.length_take]; rfl)) ?_; (with_reducible refine (lexpriorref21_Encode.calls k _ _ l0 t238 t239 _ ?side1 ?side2 A6.out).mono ?_); (case side1 => repeat (first | exact (Kd.C_below HR0.out HB.out) | (with_reducible refine Kd.C_alloc ?_ _) | (with_reducible refine Kd.C_drewN ?_ _) | (with_reducible refine Kd.C_drew ?_))); (case side2 => exact HC0.out); rintro e w41 ⟨v240, rfl, ho0, hb⟩; refine ⟨_, rfl, ?_⟩; have n0_ := Aside0.mk (Kd.S_below (by (with_reducible repeat (first | apply Kd.S_alloc | apply Kd.S_drewN | apply Kd.S_drew)); exact HO229.out) hb); have n1_ := Aside0.mk (Kd.R_elder' (by (with_reducible repeat (first | apply Kd.R_alloc | apply Kd.R_drewN | apply Kd.R_drew)); exact HO237.out) (Kd.R_base ho0) hb); have n2_ := Aside0.mk (Kd.R_lower (Kd.R_new' ho0 (Kd.R_lt (by (with_reducible repeat (first | apply Kd.R_alloc | apply Kd.R_drewN | apply Kd.R_drew)); exact HO237.out))) (below_size (by repeat (first | (with_reducible first | exact HB.out | apply below_alloc | apply pw_below_drewN | apply below_drew1) | exact HB.out)))); have n3_ := Aside0.mk (below_step (by repeat (first | (with_reducible first | exact HB.out | apply below_alloc | apply pw_below_drewN | apply below_drew1) | exact HB.out)) hb); clear HO229; clear HO237; clear HB; have HO229 := n0_; have HO237 := n1_; have HO241 := n2_; have HB := n3_; clear n0_ n1_ n2_ n3_; (try clear hb); (try clear hb2); (try clear hk); (try clear hi); (try clear ho0)) | ((with_reducible refine gate_callee (f := 13) rfl ?_); refine goesL_ (some 35) rfl rfl Try.func13 (by kernel_rfl) rfl #[.int .i64 t230] rfl (by (try simp only [List.map_toArray, List.map_cons, List.map_nil]); first | done | rfl | (simp only [List.length_drop, List.length_take]; rfl)) ?_; (with_reducible refine (lexpriorlaw21_num.calls t230 t242 _ A7.out).mono ?_); rintro e w' ⟨rfl, ⟨nd, rfl⟩⟩; refine ⟨_, rfl, ?_⟩; obtain ⟨Ao42, co42, eo42⟩ := Kd.R_slice HO237.out; subst eo42; obtain ⟨Ao43, co43, eo43⟩ := Kd.R_slice HO241.out; subst eo43) | (go_at_call 14; (with_reducible refine (lexpriorplain_SameBytes.calls k _ _ t234 _ _ t238 true _ ?side1 ?side2 ?side3 ?side4 A10.out).mono ?_); (case side1 => repeat (first | exact (Kd.R_reads' HO237.out).2.2 | (with_reducible refine Kd.C_alloc ?_ _) | (with_reducible refine Kd.C_drewN ?_ _) | (with_reducible refine Kd.C_drew ?_))); (case side2 => exact (Kd.R_reads' HO237.out).2.1); (case side3 => repeat (first | exact (Kd.R_reads' HO241.out).2.2 | (with_reducible refine Kd.C_alloc ?_ _) | (with_reducible refine Kd.C_drewN ?_ _) | (with_reducible refine Kd.C_drew ?_))); (case side4 => exact (Kd.R_reads' HO241.out).2.1); rintro e w' ⟨rfl, ⟨nd, rfl⟩⟩) | (go_at_call 13; (with_reducible refine (lexpriorlaw21_num.calls t235 t244 _ A12.out).mono ?_); rintro e w' ⟨rfl, ⟨nd, rfl⟩⟩))
          go_ret
          exact ⟨by first | rfl | (simp [errW_none, errW_some] <;> rfl) | (simp [*, errW_none, errW_some] <;> rfl), by repeat (first | (with_reducible first | exact HB.out | apply below_alloc | apply pw_below_drewN | apply below_drew1) | exact HB.out)⟩
      · replace c11 := Bool.eq_false_iff.mpr c11
        subst c11
        have H1 : (some false) = some r := by rw [if_neg (show ¬ (false = true) by decide)] at H; exact H
        clear H
        have H := H1
        clear H1
        obtain rfl := Option.some.inj H
        go_enter Try.func3, Try.ntmps3
        go_wp2_with (first | ((with_reducible refine gate_callee (f := 8) rfl ?_); refine goesL_ (some 13) rfl rfl Try.func8 (by kernel_rfl) rfl #[.slice A0 l0.length c0] rfl (by (try simp only [List.map_toArray, List.map_cons, List.map_nil]); first | done | rfl | (simp only [List.length_drop, List.length_take]; rfl)) ?_; (with_reducible refine (lexpriorplain_CopySteps.calls k _ _ l0 t227 _ ?side1 ?side2 A2.out).mono ?_); (case side1 => repeat (first | exact HR0.out | (with_reducible refine Kd.C_alloc ?_ _) | (with_reducible refine Kd.C_drewN ?_ _) | (with_reducible refine Kd.C_drew ?_))); (case side2 => exact HC0.out); rintro e w44 ⟨v228, rfl, ho0, hb⟩; refine ⟨_, rfl, ?_⟩; have n0_ := Aside0.mk (Kd.S_lower ho0 (below_size (by repeat (first | (with_reducible first | exact HB.out | apply below_alloc | apply pw_below_drewN | apply below_drew1) | exact HB.out)))); have n1_ := Aside0.mk (below_step (by repeat (first | (with_reducible first | exact HB.out | apply below_alloc | apply pw_below_drewN | apply below_drew1) | exact HB.out)) hb); clear HB; have HO229 := n0_; have HB := n1_; clear n0_ n1_; (try clear hb); (try clear hb2); (try clear hk); (try clear hi); (try clear ho0); obtain ⟨Ao45, co45, eo45⟩ := Kd.S_slice HO229.out; subst eo45) | ((with_reducible refine gate_callee (f := 9) rfl ?_); refine goesL_ (some 16) rfl rfl Try.func9 (by kernel_rfl) rfl #[.slice Ao45 t227.length co45] rfl (by (try simp only [List.map_toArray, List.map_cons, List.map_nil]); first | done | rfl | (simp only [List.length_drop, List.length_take]; rfl)) ?_; (with_reducible refine (wire_Check.calls k _ _ t227 t230 t231 _ ?side1 ?side2 A3.out).mono ?_); (case side1 => repeat (first | exact (Kd.S_reads' HO229.out).2.2 | (with_reducible refine Kd.C_alloc ?_ _) | (with_reducible refine Kd.C_drewN ?_ _) | (with_reducible refine Kd.C_drew ?_))); (case side2 => exact (Kd.S_reads' HO229.out).2.1); rintro e w46 ⟨rfl, hb⟩; refine ⟨_, rfl, ?_⟩; have n0_ := Aside0.mk (Kd.S_below (by (with_reducible repeat (first | apply Kd.S_alloc | apply Kd.S_drewN | apply Kd.S_drew)); exact HO229.out) hb); have n1_ := Aside0.mk (below_step (by repeat (first | (with_reducible first | exact HB.out | apply below_alloc | apply pw_below_drewN | apply below_drew1) | exact HB.out)) hb); clear HO229; clear HB; have HO229 := n0_; have HB := n1_; clear n0_ n1_; (try clear hb); (try clear hb2); (try clear hk); (try clear hi)) | ((with_reducible refine gate_callee (f := 10) rfl ?_); refine goesL_ (some 21) rfl rfl Try.func10 (by kernel_rfl) rfl #[.slice A0 l0.length c0] rfl (by (try simp only [List.map_toArray, List.map_cons, List.map_nil]); first | done | rfl | (simp only [List.length_drop, List.length_take]; rfl)) ?_; (with_reducible refine (lexpriorref21_Check.calls k _ _ l0 t232 t233 _ ?side1 ?side2 A4.out).mono ?_); (case side1 => repeat (first | exact (Kd.C_below HR0.out HB.out) | (with_reducible refine Kd.C_alloc ?_ _) | (with_reducible refine Kd.C_drewN ?_ _) | (with_reducible refine Kd.C_drew ?_))); (case side2 => exact HC0.out); rintro e w47 ⟨rfl, hb⟩; refine ⟨_, rfl, ?_⟩; have n0_ := Aside0.mk (Kd.S_below (by (with_reducible repeat (first | apply Kd.S_alloc | apply Kd.S_drewN | apply Kd.S_drew)); exact HO229.out) hb); have n1_ := Aside0.mk (below_step (by repeat (first | (with_reducible first | exact HB.out | apply below_alloc | apply pw_below_drewN | apply below_drew1) | exact HB.out)) hb); clear HO229; clear HB; have HO229 := n0_; have HB := n1_; clear n0_ n1_; (try clear hb); (try clear hb2); (try clear hk); (try clear hi)) | ((with_reducible refine gate_callee (f := 11) rfl ?_); refine goesL_ (some 26) rfl rfl Try.func11 (by kernel_rfl) rfl #[.slice Ao45 t227.length co45] rfl (by (try simp only [List.map_toArray, List.map_cons, List.map_nil]); first | done | rfl | (simp only [List.length_drop, List.length_take]; rfl)) ?_; (with_reducible refine (wire_Encode.calls k _ _ t227 t234 t235 _ ?side1 ?side2 A5.out).mono ?_); (case side1 => repeat (first | exact (Kd.S_reads' HO229.out).2.2 | (with_reducible refine Kd.C_alloc ?_ _) | (with_reducible refine Kd.C_drewN ?_ _) | (with_reducible refine Kd.C_drew ?_))); (case side2 => exact (Kd.S_reads' HO229.out).2.1); rintro e w48 ⟨v236, rfl, ho0, hb⟩; refine ⟨_, rfl, ?_⟩; have n0_ := Aside0.mk (Kd.S_below (by (with_reducible repeat (first | apply Kd.S_alloc | apply Kd.S_drewN | apply Kd.S_drew)); exact HO229.out) hb); have n1_ := Aside0.mk (Kd.R_lower ho0 (below_size (by repeat (first | (with_reducible first | exact HB.out | apply below_alloc | apply pw_below_drewN | apply below_drew1) | exact HB.out)))); have n2_ := Aside0.mk (below_step (by repeat (first | (with_reducible first | exact HB.out | apply below_alloc | apply pw_below_drewN | apply below_drew1) | exact HB.out)) hb); clear HO229; clear HB; have HO229 := n0_; have HO237 := n1_; have HB := n2_; clear n0_ n1_ n2_; (try clear hb); (try clear hb2); (try clear hk); (try clear hi); (try clear ho0)) | ((with_reducible refine gate_callee (f := 12) rfl ?_); refine goesL_ (some 31) rfl rfl Try.func12 (by kernel_rfl) rfl #[.slice A0 l0.length c0] rfl (by (try simp only [List.map_toArray, List.map_cons, List.map_nil]); first | done | rfl | (simp only [List.length_drop, List.length_take]; rfl)) ?_; (with_reducible refine (lexpriorref21_Encode.calls k _ _ l0 t238 t239 _ ?side1 ?side2 A6.out).mono ?_); (case side1 => repeat (first | exact (Kd.C_below HR0.out HB.out) | (with_reducible refine Kd.C_alloc ?_ _) | (with_reducible refine Kd.C_drewN ?_ _) | (with_reducible refine Kd.C_drew ?_))); (case side2 => exact HC0.out); rintro e w49 ⟨v240, rfl, ho0, hb⟩; refine ⟨_, rfl, ?_⟩; have n0_ := Aside0.mk (Kd.S_below (by (with_reducible repeat (first | apply Kd.S_alloc | apply Kd.S_drewN | apply Kd.S_drew)); exact HO229.out) hb); have n1_ := Aside0.mk (Kd.R_elder' (by (with_reducible repeat (first | apply Kd.R_alloc | apply Kd.R_drewN | apply Kd.R_drew)); exact HO237.out) (Kd.R_base ho0) hb); have n2_ := Aside0.mk (Kd.R_lower (Kd.R_new' ho0 (Kd.R_lt (by (with_reducible repeat (first | apply Kd.R_alloc | apply Kd.R_drewN | apply Kd.R_drew)); exact HO237.out))) (below_size (by repeat (first | (with_reducible first | exact HB.out | apply below_alloc | apply pw_below_drewN | apply below_drew1) | exact HB.out)))); have n3_ := Aside0.mk (below_step (by repeat (first | (with_reducible first | exact HB.out | apply below_alloc | apply pw_below_drewN | apply below_drew1) | exact HB.out)) hb); clear HO229; clear HO237; clear HB; have HO229 := n0_; have HO237 := n1_; have HO241 := n2_; have HB := n3_; clear n0_ n1_ n2_ n3_; (try clear hb); (try clear hb2); (try clear hk); (try clear hi); (try clear ho0)) | ((with_reducible refine gate_callee (f := 13) rfl ?_); refine goesL_ (some 35) rfl rfl Try.func13 (by kernel_rfl) rfl #[.int .i64 t230] rfl (by (try simp only [List.map_toArray, List.map_cons, List.map_nil]); first | done | rfl | (simp only [List.length_drop, List.length_take]; rfl)) ?_; (with_reducible refine (lexpriorlaw21_num.calls t230 t242 _ A7.out).mono ?_); rintro e w' ⟨rfl, ⟨nd, rfl⟩⟩; refine ⟨_, rfl, ?_⟩; obtain ⟨Ao50, co50, eo50⟩ := Kd.R_slice HO237.out; subst eo50; obtain ⟨Ao51, co51, eo51⟩ := Kd.R_slice HO241.out; subst eo51) | (go_at_call 14; (with_reducible refine (lexpriorplain_SameBytes.calls k _ _ t234 _ _ t238 false _ ?side1 ?side2 ?side3 ?side4 A10.out).mono ?_); (case side1 => repeat (first | exact (Kd.R_reads' HO237.out).2.2 | (with_reducible refine Kd.C_alloc ?_ _) | (with_reducible refine Kd.C_drewN ?_ _) | (with_reducible refine Kd.C_drew ?_))); (case side2 => exact (Kd.R_reads' HO237.out).2.1); (case side3 => repeat (first | exact (Kd.R_reads' HO241.out).2.2 | (with_reducible refine Kd.C_alloc ?_ _) | (with_reducible refine Kd.C_drewN ?_ _) | (with_reducible refine Kd.C_drew ?_))); (case side4 => exact (Kd.R_reads' HO241.out).2.1); rintro e w' ⟨rfl, ⟨nd, rfl⟩⟩))
        go_ret
        exact ⟨by first | rfl | (simp [errW_none, errW_some] <;> rfl) | (simp [*, errW_none, errW_some] <;> rfl), by repeat (first | (with_reducible first | exact HB.out | apply below_alloc | apply pw_below_drewN | apply below_drew1) | exact HB.out)⟩
    · rw [if_neg c9] at H
      have c9b0 : (t231 == t233) = false := beq_eq_false_iff_ne.mpr c9
      have c9b1 : (t231 != t233) = true := bne_iff_ne.mpr c9
      obtain rfl := Option.some.inj H
      go_enter Try.func3, Try.ntmps3
      go_wp2_with (first | ((with_reducible refine gate_callee (f := 8) rfl ?_); refine goesL_ (some 13) rfl rfl Try.func8 (by kernel_rfl) rfl #[.slice A0 l0.length c0] rfl (by (try simp only [List.map_toArray, List.map_cons, List.map_nil]); first | done | rfl | (simp only [List.length_drop, List.length_take]; rfl)) ?_; (with_reducible refine (lexpriorplain_CopySteps.calls k _ _ l0 t227 _ ?side1 ?side2 A2.out).mono ?_); (case side1 => repeat (first | exact HR0.out | (with_reducible refine Kd.C_alloc ?_ _) | (with_reducible refine Kd.C_drewN ?_ _) | (with_reducible refine Kd.C_drew ?_))); (case side2 => exact HC0.out); rintro e w52 ⟨v228, rfl, ho0, hb⟩; refine ⟨_, rfl, ?_⟩; have n0_ := Aside0.mk (Kd.S_lower ho0 (below_size (by repeat (first | (with_reducible first | exact HB.out | apply below_alloc | apply pw_below_drewN | apply below_drew1) | exact HB.out)))); have n1_ := Aside0.mk (below_step (by repeat (first | (with_reducible first | exact HB.out | apply below_alloc | apply pw_below_drewN | apply below_drew1) | exact HB.out)) hb); clear HB; have HO229 := n0_; have HB := n1_; clear n0_ n1_; (try clear hb); (try clear hb2); (try clear hk); (try clear hi); (try clear ho0); obtain ⟨Ao53, co53, eo53⟩ := Kd.S_slice HO229.out; subst eo53) | ((with_reducible refine gate_callee (f := 9) rfl ?_); refine goesL_ (some 16) rfl rfl Try.func9 (by kernel_rfl) rfl #[.slice Ao53 t227.length co53] rfl (by (try simp only [List.map_toArray, List.map_cons, List.map_nil]); first | done | rfl | (simp only [List.length_drop, List.length_take]; rfl)) ?_; (with_reducible refine (wire_Check.calls k _ _ t227 t230 t231 _ ?side1 ?side2 A3.out).mono ?_); (case side1 => repeat (first | exact (Kd.S_reads' HO229.out).2.2 | (with_reducible refine Kd.C_alloc ?_ _) | (with_reducible refine Kd.C_drewN ?_ _) | (with_reducible refine Kd.C_drew ?_))); (case side2 => exact (Kd.S_reads' HO229.out).2.1); rintro e w54 ⟨rfl, hb⟩; refine ⟨_, rfl, ?_⟩; have n0_ := Aside0.mk (Kd.S_below (by (with_reducible repeat (first | apply Kd.S_alloc | apply Kd.S_drewN | apply Kd.S_drew)); exact HO229.out) hb); have n1_ := Aside0.mk (below_step (by repeat (first | (with_reducible first | exact HB.out | apply below_alloc | apply pw_below_drewN | apply below_drew1) | exact HB.out)) hb); clear HO229; clear HB; have HO229 := n0_; have HB := n1_; clear n0_ n1_; (try clear hb); (try clear hb2); (try clear hk); (try clear hi)) | ((with_reducible refine gate_callee (f := 10) rfl ?_); refine goesL_ (some 21) rfl rfl Try.func10 (by kernel_rfl) rfl #[.slice A0 l0.length c0] rfl (by (try simp only [List.map_toArray, List.map_cons, List.map_nil]); first | done | rfl | (simp only [List.length_drop, List.length_take]; rfl)) ?_; (with_reducible refine (lexpriorref21_Check.calls k _ _ l0 t232 t233 _ ?side1 ?side2 A4.out).mono ?_); (case side1 => repeat (first | exact (Kd.C_below HR0.out HB.out) | (with_reducible refine Kd.C_alloc ?_ _) | (with_reducible refine Kd.C_drewN ?_ _) | (with_reducible refine Kd.C_drew ?_))); (case side2 => exact HC0.out); rintro e w55 ⟨rfl, hb⟩; refine ⟨_, rfl, ?_⟩; have n0_ := Aside0.mk (Kd.S_below (by (with_reducible repeat (first | apply Kd.S_alloc | apply Kd.S_drewN | apply Kd.S_drew)); exact HO229.out) hb); have n1_ := Aside0.mk (below_step (by repeat (first | (with_reducible first | exact HB.out | apply below_alloc | apply pw_below_drewN | apply below_drew1) | exact HB.out)) hb); clear HO229; clear HB; have HO229 := n0_; have HB := n1_; clear n0_ n1_; (try clear hb); (try clear hb2); (try clear hk); (try clear hi)) | ((with_reducible refine gate_callee (f := 11) rfl ?_); refine goesL_ (some 26) rfl rfl Try.func11 (by kernel_rfl) rfl #[.slice Ao53 t227.length co53] rfl (by (try simp only [List.map_toArray, List.map_cons, List.map_nil]); first | done | rfl | (simp only [List.length_drop, List.length_take]; rfl)) ?_; (with_reducible refine (wire_Encode.calls k _ _ t227 t234 t235 _ ?side1 ?side2 A5.out).mono ?_); (case side1 => repeat (first | exact (Kd.S_reads' HO229.out).2.2 | (with_reducible refine Kd.C_alloc ?_ _) | (with_reducible refine Kd.C_drewN ?_ _) | (with_reducible refine Kd.C_drew ?_))); (case side2 => exact (Kd.S_reads' HO229.out).2.1); rintro e w56 ⟨v236, rfl, ho0, hb⟩; refine ⟨_, rfl, ?_⟩; have n0_ := Aside0.mk (Kd.S_below (by (with_reducible repeat (first | apply Kd.S_alloc | apply Kd.S_drewN | apply Kd.S_drew)); exact HO229.out) hb); have n1_ := Aside0.mk (Kd.R_lower ho0 (below_size (by repeat (first | (with_reducible first | exact HB.out | apply below_alloc | apply pw_below_drewN | apply below_drew1) | exact HB.out)))); have n2_ := Aside0.mk (below_step (by repeat (first | (with_reducible first | exact HB.out | apply below_alloc | apply pw_below_drewN | apply below_drew1) | exact HB.out)) hb); clear HO229; clear HB; have HO229 := n0_; have HO237 := n1_; have HB := n2_; clear n0_ n1_ n2_; (try clear hb); (try clear hb2); (try clear hk); (try clear hi); (try clear ho0)) | ((with_reducible refine gate_callee (f := 12) rfl ?_); refine goesL_ (some 31) rfl rfl Try.func12 (by kernel_rfl) rfl #[.slice A0 l0.length c0] rfl (by (try simp only [List.map_toArray, List.map_cons, List.map_nil]); first | done | rfl | (simp only [List.length_drop, List.length_take]; rfl)) ?_; (with_reducible refine (lexpriorref21_Encode.calls k _ _ l0 t238 t239 _ ?side1 ?side2 A6.out).mono ?_); (case side1 => repeat (first | exact (Kd.C_below HR0.out HB.out) | (with_reducible refine Kd.C_alloc ?_ _) | (with_reducible refine Kd.C_drewN ?_ _) | (with_reducible refine Kd.C_drew ?_))); (case side2 => exact HC0.out); rintro e w57 ⟨v240, rfl, ho0, hb⟩; refine ⟨_, rfl, ?_⟩; have n0_ := Aside0.mk (Kd.S_below (by (with_reducible repeat (first | apply Kd.S_alloc | apply Kd.S_drewN | apply Kd.S_drew)); exact HO229.out) hb); have n1_ := Aside0.mk (Kd.R_elder' (by (with_reducible repeat (first | apply Kd.R_alloc | apply Kd.R_drewN | apply Kd.R_drew)); exact HO237.out) (Kd.R_base ho0) hb); have n2_ := Aside0.mk (Kd.R_lower (Kd.R_new' ho0 (Kd.R_lt (by (with_reducible repeat (first | apply Kd.R_alloc | apply Kd.R_drewN | apply Kd.R_drew)); exact HO237.out))) (below_size (by repeat (first | (with_reducible first | exact HB.out | apply below_alloc | apply pw_below_drewN | apply below_drew1) | exact HB.out)))); have n3_ := Aside0.mk (below_step (by repeat (first | (with_reducible first | exact HB.out | apply below_alloc | apply pw_below_drewN | apply below_drew1) | exact HB.out)) hb); clear HO229; clear HO237; clear HB; have HO229 := n0_; have HO237 := n1_; have HO241 := n2_; have HB := n3_; clear n0_ n1_ n2_ n3_; (try clear hb); (try clear hb2); (try clear hk); (try clear hi); (try clear ho0)) | ((with_reducible refine gate_callee (f := 13) rfl ?_); refine goesL_ (some 35) rfl rfl Try.func13 (by kernel_rfl) rfl #[.int .i64 t230] rfl (by (try simp only [List.map_toArray, List.map_cons, List.map_nil]); first | done | rfl | (simp only [List.length_drop, List.length_take]; rfl)) ?_; (with_reducible refine (lexpriorlaw21_num.calls t230 t242 _ A7.out).mono ?_); rintro e w' ⟨rfl, ⟨nd, rfl⟩⟩; refine ⟨_, rfl, ?_⟩))
      go_ret
      exact ⟨by first | rfl | (simp [errW_none, errW_some] <;> rfl) | (simp [*, errW_none, errW_some] <;> rfl), by repeat (first | (with_reducible first | exact HB.out | apply below_alloc | apply pw_below_drewN | apply below_drew1) | exact HB.out)⟩
  · rw [if_neg c8] at H
    have c8b0 : (t242 == t232) = false := beq_eq_false_iff_ne.mpr c8
    have c8b1 : (t242 != t232) = true := bne_iff_ne.mpr c8
    obtain rfl := Option.some.inj H
    go_enter Try.func3, Try.ntmps3
    go_wp2_with (first | ((with_reducible refine gate_callee (f := 8) rfl ?_); refine goesL_ (some 13) rfl rfl Try.func8 (by kernel_rfl) rfl #[.slice A0 l0.length c0] rfl (by (try simp only [List.map_toArray, List.map_cons, List.map_nil]); first | done | rfl | (simp only [List.length_drop, List.length_take]; rfl)) ?_; (with_reducible refine (lexpriorplain_CopySteps.calls k _ _ l0 t227 _ ?side1 ?side2 A2.out).mono ?_); (case side1 => repeat (first | exact HR0.out | (with_reducible refine Kd.C_alloc ?_ _) | (with_reducible refine Kd.C_drewN ?_ _) | (with_reducible refine Kd.C_drew ?_))); (case side2 => exact HC0.out); rintro e w58 ⟨v228, rfl, ho0, hb⟩; refine ⟨_, rfl, ?_⟩; have n0_ := Aside0.mk (Kd.S_lower ho0 (below_size (by repeat (first | (with_reducible first | exact HB.out | apply below_alloc | apply pw_below_drewN | apply below_drew1) | exact HB.out)))); have n1_ := Aside0.mk (below_step (by repeat (first | (with_reducible first | exact HB.out | apply below_alloc | apply pw_below_drewN | apply below_drew1) | exact HB.out)) hb); clear HB; have HO229 := n0_; have HB := n1_; clear n0_ n1_; (try clear hb); (try clear hb2); (try clear hk); (try clear hi); (try clear ho0); obtain ⟨Ao59, co59, eo59⟩ := Kd.S_slice HO229.out; subst eo59) | ((with_reducible refine gate_callee (f := 9) rfl ?_); refine goesL_ (some 16) rfl rfl Try.func9 (by kernel_rfl) rfl #[.slice Ao59 t227.length co59] rfl (by (try simp only [List.map_toArray, List.map_cons, List.map_nil]); first | done | rfl | (simp only [List.length_drop, List.length_take]; rfl)) ?_; (with_reducible refine (wire_Check.calls k _ _ t227 t230 t231 _ ?side1 ?side2 A3.out).mono ?_); (case side1 => repeat (first | exact (Kd.S_reads' HO229.out).2.2 | (with_reducible refine Kd.C_alloc ?_ _) | (with_reducible refine Kd.C_drewN ?_ _) | (with_reducible refine Kd.C_drew ?_))); (case side2 => exact (Kd.S_reads' HO229.out).2.1); rintro e w60 ⟨rfl, hb⟩; refine ⟨_, rfl, ?_⟩; have n0_ := Aside0.mk (Kd.S_below (by (with_reducible repeat (first | apply Kd.S_alloc | apply Kd.S_drewN | apply Kd.S_drew)); exact HO229.out) hb); have n1_ := Aside0.mk (below_step (by repeat (first | (with_reducible first | exact HB.out | apply below_alloc | apply pw_below_drewN | apply below_drew1) | exact HB.out)) hb); clear HO229; clear HB; have HO229 := n0_; have HB := n1_; clear n0_ n1_; (try clear hb); (try clear hb2); (try clear hk); (try clear hi)) | ((with_reducible refine gate_callee (f := 10) rfl ?_); refine goesL_ (some 21) rfl rfl Try.func10 (by kernel_rfl) rfl #[.slice A0 l0.length c0] rfl (by (try simp only [List.map_toArray, List.map_cons, List.map_nil]); first | done | rfl | (simp only [List.length_drop, List.length_take]; rfl)) ?_; (with_reducible refine (lexpriorref21_Check.calls k _ _ l0 t232 t233 _ ?side1 ?side2 A4.out).mono ?_); (case side1 => repeat (first | exact (Kd.C_below HR0.out HB.out) | (with_reducible refine Kd.C_alloc ?_ _) | (with_reducible refine Kd.C_drewN ?_ _) | (with_reducible refine Kd.C_drew ?_))); (case side2 => exact HC0.out); rintro e w61 ⟨rfl, hb⟩; refine ⟨_, rfl, ?_⟩; have n0_ := Aside0.mk (Kd.S_below (by (with_reducible repeat (first | apply Kd.S_alloc | apply Kd.S_drewN | apply Kd.S_drew)); exact HO229.out) hb); have n1_ := Aside0.mk (below_step (by repeat (first | (with_reducible first | exact HB.out | apply below_alloc | apply pw_below_drewN | apply below_drew1) | exact HB.out)) hb); clear HO229; clear HB; have HO229 := n0_; have HB := n1_; clear n0_ n1_; (try clear hb); (try clear hb2); (try clear hk); (try clear hi)) | ((with_reducible refine gate_callee (f := 11) rfl ?_); refine goesL_ (some 26) rfl rfl Try.func11 (by kernel_rfl) rfl #[.slice Ao59 t227.length co59] rfl (by (try simp only [List.map_toArray, List.map_cons, List.map_nil]); first | done | rfl | (simp only [List.length_drop, List.length_take]; rfl)) ?_; (with_reducible refine (wire_Encode.calls k _ _ t227 t234 t235 _ ?side1 ?side2 A5.out).mono ?_); (case side1 => repeat (first | exact (Kd.S_reads' HO229.out).2.2 | (with_reducible refine Kd.C_alloc ?_ _) | (with_reducible refine Kd.C_drewN ?_ _) | (with_reducible refine Kd.C_drew ?_))); (case side2 => exact (Kd.S_reads' HO229.out).2.1); rintro e w62 ⟨v236, rfl, ho0, hb⟩; refine ⟨_, rfl, ?_⟩; have n0_ := Aside0.mk (Kd.S_below (by (with_reducible repeat (first | apply Kd.S_alloc | apply Kd.S_drewN | apply Kd.S_drew)); exact HO229.out) hb); have n1_ := Aside0.mk (Kd.R_lower ho0 (below_size (by repeat (first | (with_reducible first | exact HB.out | apply below_alloc | apply pw_below_drewN | apply below_drew1) | exact HB.out)))); have n2_ := Aside0.mk (below_step (by repeat (first | (with_reducible first | exact HB.out | apply below_alloc | apply pw_below_drewN | apply below_drew1) | exact HB.out)) hb); clear HO229; clear HB; have HO229 := n0_; have HO237 := n1_; have HB := n2_; clear n0_ n1_ n2_; (try clear hb); (try clear hb2); (try clear hk); (try clear hi); (try clear ho0)) | ((with_reducible refine gate_callee (f := 12) rfl ?_); refine goesL_ (some 31) rfl rfl Try.func12 (by kernel_rfl) rfl #[.slice A0 l0.length c0] rfl (by (try simp only [List.map_toArray, List.map_cons, List.map_nil]); first | done | rfl | (simp only [List.length_drop, List.length_take]; rfl)) ?_; (with_reducible refine (lexpriorref21_Encode.calls k _ _ l0 t238 t239 _ ?side1 ?side2 A6.out).mono ?_); (case side1 => repeat (first | exact (Kd.C_below HR0.out HB.out) | (with_reducible refine Kd.C_alloc ?_ _) | (with_reducible refine Kd.C_drewN ?_ _) | (with_reducible refine Kd.C_drew ?_))); (case side2 => exact HC0.out); rintro e w63 ⟨v240, rfl, ho0, hb⟩; refine ⟨_, rfl, ?_⟩; have n0_ := Aside0.mk (Kd.S_below (by (with_reducible repeat (first | apply Kd.S_alloc | apply Kd.S_drewN | apply Kd.S_drew)); exact HO229.out) hb); have n1_ := Aside0.mk (Kd.R_elder' (by (with_reducible repeat (first | apply Kd.R_alloc | apply Kd.R_drewN | apply Kd.R_drew)); exact HO237.out) (Kd.R_base ho0) hb); have n2_ := Aside0.mk (Kd.R_lower (Kd.R_new' ho0 (Kd.R_lt (by (with_reducible repeat (first | apply Kd.R_alloc | apply Kd.R_drewN | apply Kd.R_drew)); exact HO237.out))) (below_size (by repeat (first | (with_reducible first | exact HB.out | apply below_alloc | apply pw_below_drewN | apply below_drew1) | exact HB.out)))); have n3_ := Aside0.mk (below_step (by repeat (first | (with_reducible first | exact HB.out | apply below_alloc | apply pw_below_drewN | apply below_drew1) | exact HB.out)) hb); clear HO229; clear HO237; clear HB; have HO229 := n0_; have HO237 := n1_; have HO241 := n2_; have HB := n3_; clear n0_ n1_ n2_ n3_; (try clear hb); (try clear hb2); (try clear hk); (try clear hi); (try clear ho0)) | ((with_reducible refine gate_callee (f := 13) rfl ?_); refine goesL_ (some 35) rfl rfl Try.func13 (by kernel_rfl) rfl #[.int .i64 t230] rfl (by (try simp only [List.map_toArray, List.map_cons, List.map_nil]); first | done | rfl | (simp only [List.length_drop, List.length_take]; rfl)) ?_; (with_reducible refine (lexpriorlaw21_num.calls t230 t242 _ A7.out).mono ?_); rintro e w' ⟨rfl, ⟨nd, rfl⟩⟩; refine ⟨_, rfl, ?_⟩))
    go_ret
    exact ⟨by first | rfl | (simp [errW_none, errW_some] <;> rfl) | (simp [*, errW_none, errW_some] <;> rfl), by repeat (first | (with_reducible first | exact HB.out | apply below_alloc | apply pw_below_drewN | apply below_drew1) | exact HB.out)⟩

end Go.Proofs.Ytccoeecladhfmaa.P
