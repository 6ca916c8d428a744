-- Written by lexprint.py, a program of this session's own that runs the kit's print with turned rows. Lean checks it.
import Derived.Test.YtccoeecladhfmaaPx0
import Derived.Test.YtccoeecladhfmaaPx5
import Derived.Test.YtccoeecladhfmaaPx7
namespace Go.Proofs.Ytccoeecladhfmaa.P
open Go.RowKit Go.Proofs.YtccoeecladhfmaaW.PrintWords Go.Proofs.YtccoeecladhfmaaW.PrintLast Go.Proofs.YtccoeecladhfmaaW.PrintMore
attribute [local go_sem] max2_int min2_int max_two min_two max_three min_three max_four min_four   -- for this text's walks alone
set_option linter.unusedVariables false
set_option linter.unusedSimpArgs false

/-! ### octets_ReadUint: function 42 -/
def octets_ReadUint.f (l0 : List Int) (a1 : Int) : Option (Int × Int × Int) := if Bytes l0 then some (ru l0 a1) else none
theorem octets_ReadUint.info : (Try.prog.info? 5).map (fun i => (i.zero, i.size, i.bytes)) = some (some (.int .u8 0), 1, 1) := by kernel_rfl
theorem and127 (c : Int) : 0 ≤ Go.bits .and .u8 c 127 ∧ Go.bits .and .u8 c 127 ≤ 255 := by
  simp only [Go.bits]
  rw [IntKind.wrap_u8]
  omega
set_option maxHeartbeats 1000000 in
theorem octets_ReadUint.calls (A0 : Option Addr) (c0 : Nat) (l0 : List Int) (a1 : Int) (r1 : Int) (r2 : Int) (r3 : Int) (w : World) (hr0 : Kd.C (Kd.int .u8) w A0 l0.length l0) (hc0 : l0.length ≤ c0) (h : octets_ReadUint.f l0 a1 = some (r1, r2, r3)) :
    Calls Try.prog 42 #[.slice A0 l0.length c0, .int .i64 a1] w fun e w' => e = .returned (.tuple #[.int .u64 r1, .int .i64 r2, .int .i64 r3]) ∧ Drawn0 w w' := by
  unfold octets_ReadUint.f at h
  by_cases hb : Bytes l0
  · rw [if_pos hb] at h
    have h := Option.some.inj h
    unfold ru at h
    by_cases h0 : a1 < 0
    · rw [if_pos (.inl h0)] at h
      simp only [Prod.mk.injEq] at h
      obtain ⟨rfl, rfl, rfl⟩ := h
      have hd : decide (a1 < 0) = true := decide_eq_true h0
      clear h0 hr0 hb
      go_enter Try.func42, Try.ntmps42
      go_wp2
      go_ret3
      exact ⟨rfl, Drawn0.refl _⟩
    · have h0' : 0 ≤ a1 := by omega
      have hd : decide (a1 < 0) = false := decide_eq_false h0
      by_cases h1 : (l0.length : Int) < a1
      · rw [if_pos (.inr h1)] at h
        simp only [Prod.mk.injEq] at h
        obtain ⟨rfl, rfl, rfl⟩ := h
        have hd1 : decide ((l0.length : Int) < a1) = true := decide_eq_true h1
        clear h0 h1 hr0 hb
        go_enter Try.func42, Try.ntmps42
        go_wp2
        go_ret3
        exact ⟨rfl, Drawn0.refl _⟩
      · rw [if_neg (by omega)] at h
        obtain ⟨a, rfl⟩ := Int.eq_ofNat_of_zero_le h0'
        rw [Int.toNat_natCast] at h
        have hle : a ≤ l0.length := by omega
        have hle' : (a : Int) ≤ (l0.length : Int) := by omega
        have hd1 : decide ((l0.length : Int) < (a : Int)) = false := decide_eq_false h1
        have hd2 : decide (l0.length < a) = false := decide_eq_false (by omega)
        have HB := Lib.hid hb
        have H := Lib.hid h
        have hbound : (l0.length : Int) ≤ 9223372036854775807 := by have := hr0.2.1; omega
        obtain ⟨i08, hi08, _, hsz8, _⟩ := info_parts octets_ReadUint.info
        obtain ⟨A8, hcut8, hA8, hC8⟩ := print_drop_of (P := Try.prog) (Value.int .u8) 0 29 5 .i64 Try.underlying29 hi08 hsz8 A0 c0 l0 a (by omega) hle' hc0
        have hR := Kd.C_of_reads (h1 := fun _ => rfl) (hA8 _ (Kd.reads_of_C hr0))
        rw [Int.toNat_natCast, List.length_drop] at hR
        have HR := Aside0.mk hR
        clear hR
        clear hA8 hC8 hi08 hsz8 hr0 hb h h1 h0
        go_enter Try.func42, Try.ntmps42
        go_wp2
        go_loop [7, 23] (fun v7 v23 => ∃ (i : Nat) (m : Int), i ≤ 9 ∧ i ≤ l0.length - a ∧ v23 = .int .i64 i ∧ v7 = .int .u64 m ∧ Aside0 (ruGo a l0.length ((l0.drop a).drop i) i m = (r1, r2, r3))) (fun _ v23 => 10 - (intOf v23).toNat)
        case atStart => exact ⟨0, 0, by omega, by omega, rfl, rfl, ⟨H.out⟩⟩
        case round =>
          obtain ⟨i, m, hi9, hil, rfl, rfl, HG⟩ := hrel
          by_cases hlt : i < l0.length - a
          · have HG1 := HG.out
            rw [drop_rd _ _ (by rw [List.length_drop]; exact hlt)] at HG1
            obtain ⟨ad, e, hx⟩ := Kd.at_int HR.out i (by omega) (by omega)
            subst e
            rw [Int.toNat_natCast] at hx
            obtain ⟨hc0', hc255⟩ := (HB.out.drop a).rd_ i
            generalize rd (l0.drop a) (i : Int) = c at HG1 hx hc0' hc255
            unfold ruGo at HG1
            clear HG
            by_cases hc1 : i = 9 ∧ 1 < c
            · rw [if_pos hc1] at HG1
              simp only [Prod.mk.injEq] at HG1
              obtain ⟨rfl, rfl, rfl⟩ := HG1
              have h9b : ((i : Int) == 9) = true := beq_iff_eq.2 (by omega)
              have hc1b : decide (1 < c) = true := decide_eq_true hc1.2
              clear hc1
              go_wp2
              go_ret3
              exact ⟨rfl, Drawn0.refl _⟩
            · rw [if_neg hc1] at HG1
              have hsh : (7 * (i : Int)).toNat = 7 * i := by omega
              have HSH := Lib.hid hsh
              clear hsh
              by_cases hc128 : 128 ≤ c
              · rw [if_pos hc128] at HG1
                have h9b : ((i : Int) == 9) = false := beq_eq_false_iff_ne.2 (by omega)
                have hc128b : decide (128 ≤ c) = true := decide_eq_true hc128
                obtain ⟨b0, b1⟩ := and127 c
                have hi8 : i ≤ 8 := by omega
                have HH := Aside0.mk HG1
                clear HG1 hc1
                go_wp2
                go_round
                case rel => exact ⟨i + 1, _, by omega, by omega, by go_num, rfl, by rw [List.drop_drop] at *; exact HH⟩
                case measure => simp [intOf]; omega
              · rw [if_neg hc128] at HG1
                have hc128b : decide (128 ≤ c) = false := decide_eq_false hc128
                by_cases hz : c = 0 ∧ 0 < i
                · rw [if_pos hz] at HG1
                  simp only [Prod.mk.injEq] at HG1
                  obtain ⟨rfl, rfl, rfl⟩ := HG1
                  have hzb : (c == 0) = true := beq_iff_eq.2 hz.1
                  have hc1b : decide (1 < c) = false := decide_eq_false (by omega)
                  have hib : decide (0 < (i : Int)) = true := decide_eq_true (by omega)
                  have hib' : decide (0 < i) = true := decide_eq_true (by omega)
                  clear hz hc1
                  by_cases h9 : i = 9
                  · have h9b : ((i : Int) == 9) = true := beq_iff_eq.2 (by omega)
                    clear h9
                    go_wp2
                    go_ret3
                    exact ⟨rfl, Drawn0.refl _⟩
                  · have h9b : ((i : Int) == 9) = false := beq_eq_false_iff_ne.2 (by omega)
                    clear h9
                    go_wp2
                    go_ret3
                    exact ⟨rfl, Drawn0.refl _⟩
                · rw [if_neg hz] at HG1
                  simp only [Prod.mk.injEq] at HG1
                  obtain ⟨e1, e2, rfl⟩ := HG1
                  have E1 := Lib.hid e1
                  have E2 := Lib.hid e2
                  clear e1 e2
                  have fin : ∀ X Y : Int, X = Go.bits .or .u64 m (IntKind.u64.wrap (c * 2 ^ (7 * i))) → Y = (a : Int) + i + 1 → Ending.returned (.tuple #[.int .u64 X, .int .i64 Y, .int .i64 0]) = .returned (.tuple #[.int .u64 r1, .int .i64 r2, .int .i64 0]) := fun X Y hX hY => by rw [hX, hY, E1.out, E2.out]
                  have FIN := Lib.hid fin
                  clear fin
                  by_cases hcz : c = 0
                  · have hi0 : i = 0 := by omega
                    have hzb : (c == 0) = true := beq_iff_eq.2 hcz
                    have hib : decide (0 < (i : Int)) = false := decide_eq_false (by omega)
                    have hib' : decide (0 < i) = false := decide_eq_false (by omega)
                    have h9b : ((i : Int) == 9) = false := beq_eq_false_iff_ne.2 (by omega)
                    clear hi0 hcz hz hc1
                    go_wp2
                    go_ret3
                    exact ⟨FIN.out _ _ (by rfl) (by rfl), Drawn0.refl _⟩
                  · have hzb : (c == 0) = false := beq_eq_false_iff_ne.2 hcz
                    by_cases h9 : i = 9
                    · have h9b : ((i : Int) == 9) = true := beq_iff_eq.2 (by omega)
                      have hc1b : decide (1 < c) = false := decide_eq_false (by omega)
                      clear h9 hcz hz hc1
                      go_wp2
                      go_ret3
                      exact ⟨FIN.out _ _ (by rfl) (by rfl), Drawn0.refl _⟩
                    · have h9b : ((i : Int) == 9) = false := beq_eq_false_iff_ne.2 (by omega)
                      clear h9 hcz hz hc1
                      go_wp2
                      go_ret3
                      exact ⟨FIN.out _ _ (by rfl) (by rfl), Drawn0.refl _⟩
          · obtain rfl : i = l0.length - a := by omega
            have HG1 := HG.out
            rw [List.drop_eq_nil_of_le (by rw [List.length_drop]; exact Nat.le_refl _)] at HG1
            simp only [ruGo, Prod.mk.injEq] at HG1
            obtain ⟨rfl, rfl, rfl⟩ := HG1
            go_wp2
            go_ret3
            exact ⟨rfl, Drawn0.refl _⟩
  · rw [if_neg hb] at h
    cases h


/-! ### wire_reader_number: function 39 -/
theorem quiet_d0 {P : Program} {f : FuncId} {args : Array Value} {w : World} {n : Nat} {v : Value} (h : Calls P f args (w.drewN n) fun e w' => e = .returned v ∧ Drawn0 (w.drewN n) w') :
    Calls P f args (w.drewN n) fun e w'' => e = .returned v ∧ ∃ m, w'' = w.drewN m :=
  h.mono fun _ _ ⟨he, ⟨m, hm⟩⟩ => ⟨he, n + m, by rw [hm, World.drewN_drewN]⟩
/-- A number of at most so much: it and the place behind it. -/
def numF (l : List Int) (p m : Int) : Except (Int × Int) (Int × Int) :=
  let r := ru l p
  if r.2.2 ≠ 0 then .error (r.2.2, r.2.1) else if IntKind.u64.wrap m < r.1 then .error (211, p) else .ok (wrap64 r.1, r.2.1)
theorem num_ok (g : Nat) (l : List Int) (p m v q : Int) (w0 w : World) (hI : WrIs w0 w g l p) (hB : Below w0.heap.size w0 w) (hby : Bytes l) (h : numF l p m = .ok (v, q)) :
    Calls Try.prog 39 #[.pointer (some ⟨g, 0, none⟩), .int .i64 m] w (RPost w0 w g l (.int .i64 v) q) := by
  unfold numF at h
  rcases hr : ru l p with ⟨n, u, e⟩
  rw [hr] at h
  simp only at h
  have hru : octets_ReadUint.f l p = some (n, u, e) := by unfold octets_ReadUint.f; rw [if_pos hby, hr]
  have HI := Aside0.mk hI
  have HB := Aside0.mk hB
  have HRU := Lib.hid hru
  clear hr hru
  obtain ⟨A, c, hb, hg, hC, hc⟩ := hI
  by_cases e0 : e ≠ 0
  · rw [if_pos e0] at h; cases h
  rw [if_neg e0] at h
  by_cases e2 : IntKind.u64.wrap m < n
  · rw [if_pos e2] at h; cases h
  rw [if_neg e2] at h
  simp only [Except.ok.injEq, Prod.mk.injEq] at h
  obtain ⟨rfl, rfl⟩ := h
  have t0 : (e != 0) = false := by simpa using e0
  have t1 : decide (IntKind.u64.wrap m < n) = false := decide_eq_false e2
  have c0 : w.cell? ⟨g, 0, none⟩ = some (.slice A l.length c) := (blk_cell hb 0).trans rfl
  have c1 : w.cell? ⟨g, 1, none⟩ = some (.int .i64 p) := (blk_cell hb 1).trans rfl
  have f1 := blk_frozen hb 1
  have HC := Aside0.mk (Kd.C_below hC hB)
  have HCC := Aside0.mk hc
  clear e0 e2 hC hc hb hB
  go_enter Try.func39, Try.ntmps39
  go_wp2
  go_quiet ((go_at_call 42; exact quiet_d0 (octets_ReadUint.calls _ _ l p n u e _ (Kd.C_drewN HC.out _) HCC.out HRU.out)))
  go_wp2
  go_ret
  exact ⟨rfl, by repeat (first | (with_reducible first | exact HI.out | apply WrIs.set | apply WrIs.drewN) | exact HI.out), by repeat (first | (with_reducible first | exact HB.out | apply pw_below_drewN | refine below_set ?_ hg) | exact HB.out), by repeat (first | (with_reducible first | exact KeepBut.refl _ _ _ | apply KeepBut.set_ | apply keep_drewN) | exact KeepBut.refl _ _ _)⟩
theorem num_bad (g : Nat) (l : List Int) (p m er q : Int) (w0 w : World) (hI : WrIs w0 w g l p) (hB : Below w0.heap.size w0 w) (hby : Bytes l) (h : numF l p m = .error (er, q)) :
    Calls Try.prog 39 #[.pointer (some ⟨g, 0, none⟩), .int .i64 m] w (FPost w0 w g er q) := by
  have hpan := run_panic
  unfold numF at h
  rcases hr : ru l p with ⟨n, u, e⟩
  rw [hr] at h
  simp only at h
  have hru : octets_ReadUint.f l p = some (n, u, e) := by unfold octets_ReadUint.f; rw [if_pos hby, hr]
  have HI := Aside0.mk hI
  have HB := Aside0.mk hB
  have HRU := Lib.hid hru
  clear hr hru
  obtain ⟨A, c, hb, hg, hC, hc⟩ := hI
  have c0 : w.cell? ⟨g, 0, none⟩ = some (.slice A l.length c) := (blk_cell hb 0).trans rfl
  have c1 : w.cell? ⟨g, 1, none⟩ = some (.int .i64 p) := (blk_cell hb 1).trans rfl
  have HC := Aside0.mk (Kd.C_below hC hB)
  have HCC := Aside0.mk hc
  by_cases e0 : e ≠ 0
  · rw [if_pos e0] at h
    simp only [Except.error.injEq, Prod.mk.injEq] at h
    obtain ⟨rfl, rfl⟩ := h
    have t0 : (e != 0) = true := by simpa using e0
    clear e0 hC hc hb hB
    go_enter Try.func39, Try.ntmps39
    go_wp2
    go_quiet ((go_at_call 42; exact quiet_d0 (octets_ReadUint.calls _ _ l p n u e _ (Kd.C_drewN HC.out _) HCC.out HRU.out)))
    go_wp2
    exact ⟨rfl, rfl, by repeat (first | (with_reducible first | exact HB.out | apply pw_below_drewN | refine below_set ?_ hg) | exact HB.out), by repeat (first | exact KeepBut.refl _ _ _ | apply keep_drewN)⟩
  rw [if_neg e0] at h
  have t0 : (e != 0) = false := by simpa using e0
  by_cases e2 : IntKind.u64.wrap m < n
  · rw [if_pos e2] at h
    simp only [Except.error.injEq, Prod.mk.injEq] at h
    obtain ⟨rfl, rfl⟩ := h
    have t1 : decide (IntKind.u64.wrap m < n) = true := decide_eq_true e2
    clear e0 e2 hC hc hb hB
    go_enter Try.func39, Try.ntmps39
    go_wp2
    go_quiet ((go_at_call 42; exact quiet_d0 (octets_ReadUint.calls _ _ l p n u e _ (Kd.C_drewN HC.out _) HCC.out HRU.out)))
    go_wp2
    exact ⟨rfl, rfl, by repeat (first | (with_reducible first | exact HB.out | apply pw_below_drewN | refine below_set ?_ hg) | exact HB.out), by repeat (first | exact KeepBut.refl _ _ _ | apply keep_drewN)⟩
  · rw [if_neg e2] at h
    cases h

theorem numF_fits {l : List Int} {p m v q : Int} (hm0 : 0 ≤ m) (hm : m < 9223372036854775808) (h : numF l p m = .ok (v, q)) : 0 ≤ p ∧ p < q ∧ q ≤ l.length ∧ 0 ≤ v ∧ v ≤ m := by
  unfold numF at h
  simp only at h
  by_cases e0 : (ru l p).2.2 ≠ 0
  · rw [if_pos e0] at h; cases h
  rw [if_neg e0] at h
  by_cases e2 : IntKind.u64.wrap m < (ru l p).1
  · rw [if_pos e2] at h; cases h
  rw [if_neg e2] at h
  simp only [Except.ok.injEq, Prod.mk.injEq] at h
  obtain ⟨rfl, rfl⟩ := h
  obtain ⟨h1, h2, h3, h4, h5⟩ := Fit.ru_fits l p (by simpa using e0)
  rw [IntKind.wrap_u64] at e2
  have : wrap64 (ru l p).1 = (ru l p).1 := by unfold wrap64; omega
  rw [this]
  omega
theorem byteF_fits {l : List Int} {p a b v : Int} (h0 : 0 ≤ p) (h1 : p ≤ l.length) (h : byteF l p a b = .ok v) : p + 1 ≤ l.length ∧ a ≤ v ∧ v ≤ b := by
  unfold byteF at h
  by_cases e : p = l.length
  · rw [if_pos e] at h; cases h
  rw [if_neg e] at h
  by_cases e2 : rd l p < a ∨ b < rd l p
  · rw [if_pos e2] at h; cases h
  rw [if_neg e2] at h
  obtain rfl := Except.ok.inj h
  omega


/-! ### wire_reader_step: function 40 -/
def choF (l : List Int) : Nat → Int → Except (Int × Int) (List S54 × Int)
  | 0, p => .ok ([], p)
  | n + 1, p => do
    let (a, p1) ← numF l p 16
    let (b, p2) ← numF l p1 4096
    let (cs, q) ← choF l n p2
    return (⟨a - 1, b - 1⟩ :: cs, q)
def stepF (l : List Int) (p : Int) : Except (Int × Int) (S52 × Int) := do
  let tag ← byteF l p 1 4
  let (lit, p2) ← numF l (p + 1) 4095
  let how ← byteF l p2 1 5
  let (r, p3) ← numF l (p2 + 1) 4096
  let (n, p4) ← numF l p3 4096
  let (cs, q) ← choF l n.toNat p4
  return (⟨tag, lit, how, r - 1, cs⟩, q)
/-- The walk's state in step: the reader, and the two variables of type 52 that it made. -/
structure WrSt (w0 w W : World) (g : Nat) (l : List Int) (p : Int) (cs : Array Value) : Prop where
  I : WrIs w0 W g l p
  B : Below w0.heap.size w0 W
  K : KeepBut w W g none
  lt : g < w.heap.size
  b2 : W.heap[w.heap.size]? = some (.cells #[.int .i64 0, .int .i64 0, .int .i64 0, .int .i64 0, .slice none 0 0] 52 (0, 0))
  b3 : W.heap[w.heap.size + 1]? = some (.cells cs 52 (0, 0))
theorem WrIs.lt {w0 W : World} {g : Nat} {l : List Int} {p : Int} (h : WrIs w0 W g l p) : g < W.heap.size := by
  obtain ⟨A, c, hb, _⟩ := h
  exact blk_lt hb
theorem WrSt.call {w0 w W W1 : World} {g : Nat} {l : List Int} {p q : Int} {cs : Array Value} (h : WrSt w0 w W g l p cs) (hI : WrIs w0 W1 g l q) (hB : Below w0.heap.size w0 W1) (hK : KeepBut W W1 g none) : WrSt w0 w W1 g l q cs :=
  ⟨hI, hB, h.K.trans hK (.inl rfl), h.lt, hK.blk h.b2 (by have := h.lt; omega) (by simp), hK.blk h.b3 (by have := h.lt; omega) (by simp)⟩
theorem WrSt.set {w0 w W : World} {g : Nat} {l : List Int} {p : Int} {cs : Array Value} (h : WrSt w0 w W g l p cs) (i : Nat) (v : Value) : WrSt w0 w (W.setCell ⟨w.heap.size + 1, i, none⟩ v) g l p (cs.setIfInBounds i v) := by
  have hlt := h.lt
  obtain ⟨A, c, hb, hg, h'⟩ := h.I
  exact ⟨⟨A, c, blk_far hb (by simp; omega) _, hg, h'⟩, below_set h.B (by omega), keep_far h.K (by simp) _, h.lt, blk_far h.b2 (by simp) _, blk_set h.b3 i v⟩
theorem WrSt.drewN {w0 w W : World} {g : Nat} {l : List Int} {p : Int} {cs : Array Value} (h : WrSt w0 w W g l p cs) (n : Nat) : WrSt w0 w (W.drewN n) g l p cs := ⟨h.I, pw_below_drewN h.B n, h.K, h.lt, h.b2, h.b3⟩
theorem WrSt.below {w0 w W W1 : World} {g : Nat} {l : List Int} {p : Int} {cs : Array Value} (h : WrSt w0 w W g l p cs) (hb : Below W.heap.size W W1) : WrSt w0 w W1 g l p cs :=
  ⟨h.I.below hb, below_step h.B hb, h.K.trans (KeepBut.of_below hb g none) (.inl rfl), h.lt, blk_below h.b2 hb, blk_below h.b3 hb⟩
def SPost (w0 w : World) (g : Nat) (l : List Int) : Except (Int × Int) (S52 × Int) → Ending → World → Prop
  | .error (er, q), e, w' => FPost w0 w g er q e w'
  | .ok (s, q), e, w' => ∃ v, e = .returned (.agg #[.int .i64 s.f0, .int .i64 s.f1, .int .i64 s.f2, .int .i64 s.f3, v]) ∧ Kd.R k54 54 w' w.heap.size (fun _ => True) v s.f4 ∧ WrIs w0 w' g l q ∧ Below w0.heap.size w0 w' ∧ KeepBut w w' g none
theorem WrSt.grown {w0 w W W1 : World} {g : Nat} {l : List Int} {p : Int} {cs : Array Value} {row : Option Nat} (h : WrSt w0 w W g l p cs) (hg : W.grownBy W1 row) (hr : ∀ k, row = some k → w.heap.size + 2 ≤ k) : WrSt w0 w W1 g l p cs := by
  have hlt := h.lt
  have ne : ∀ k, k < w.heap.size + 2 → some k ≠ row := fun k hk e => by have := hr k e.symm; omega
  obtain ⟨A, c, hb, hg', h'⟩ := h.I
  have hsz : w0.heap.size ≤ W.heap.size := h.B.size
  exact ⟨⟨A, c, blk_grown hb hg (ne g (by omega)), hg', h'⟩, h.B.grown hg hsz (fun k hk => by have := hr k hk; have := blk_lt h.b2; omega), ⟨Nat.le_trans h.K.1 hg.size, fun i hi hig _ => (hg.block i (Nat.lt_of_lt_of_le hi h.K.1) (ne i (by omega))).trans (h.K.2 i hi hig (by simp))⟩, hlt, blk_grown h.b2 hg (ne _ (by omega)), blk_grown h.b3 hg (ne _ (by omega))⟩
theorem WrSt.far {w0 w W : World} {g : Nat} {l : List Int} {p : Int} {cs : Array Value} (h : WrSt w0 w W g l p cs) {a : Addr} (ha : w.heap.size + 2 ≤ a.block) (u : Value) : WrSt w0 w (W.setCell a u) g l p cs := by
  have hlt := h.lt
  obtain ⟨A, c, hb, hg, h'⟩ := h.I
  have h1 : w0.heap.size ≤ a.block := by omega
  obtain ⟨a1, a2, a3⟩ := a
  exact ⟨⟨A, c, blk_far hb (by simp only at ha ⊢; omega) _, hg, h'⟩, h.B.setCell h1 _, keep_far h.K (by simp only at ha ⊢; omega) _, hlt, blk_far h.b2 (by simp only at ha ⊢; omega) _, blk_far h.b3 (by simp only at ha ⊢; omega) _⟩
theorem WrIs.far {w0 W : World} {g : Nat} {l : List Int} {p : Int} (h : WrIs w0 W g l p) {a : Addr} (ha : g ≠ a.block) (u : Value) : WrIs w0 (W.setCell a u) g l p := by
  obtain ⟨A, c, hb, hg, h'⟩ := h
  exact ⟨A, c, blk_far hb ha _, hg, h'⟩
def preC (acc : List S54) : Except (Int × Int) (List S54 × Int) → Except (Int × Int) (List S54 × Int)
  | .ok (cs, q) => .ok (acc ++ cs, q)
  | .error e => .error e
theorem preC_nil (x : Except (Int × Int) (List S54 × Int)) : preC [] x = x := by rcases x with e | ⟨cs, q⟩ <;> rfl
theorem preC_snoc (acc : List S54) (x : S54) (y : Except (Int × Int) (List S54 × Int)) : preC (acc ++ [x]) y = preC acc (preC [x] y) := by rcases y with e | ⟨cs, q⟩ <;> simp [preC]
theorem choF_succ {l : List Int} {n : Nat} {p a p1 b p2 : Int} (h1 : numF l p 16 = .ok (a, p1)) (h2 : numF l p1 4096 = .ok (b, p2)) : choF l (n + 1) p = preC [⟨a - 1, b - 1⟩] (choF l n p2) := by
  simp only [choF, h1, h2, bind, Except.bind]
  rcases choF l n p2 with e | ⟨cs, q⟩ <;> rfl
set_option maxHeartbeats 2000000 in
theorem step_any (g : Nat) (l : List Int) (p : Int) (w0 w : World) (hI : WrIs w0 w g l p) (hB : Below w0.heap.size w0 w) (hby : Bytes l) (h0 : 0 ≤ p) (h1 : p ≤ l.length) :
    Calls Try.prog 40 #[.pointer (some ⟨g, 0, none⟩)] w (SPost w0 w g l (stepF l p)) := by
  have hlt := hI.lt
  have S0 : WrSt w0 w ((w.alloc (.cells #[.int .i64 0, .int .i64 0, .int .i64 0, .int .i64 0, .slice none 0 0] 52 (0, 0))).alloc (.cells #[.int .i64 0, .int .i64 0, .int .i64 0, .int .i64 0, .slice none 0 0] 52 (0, 0))) g l p #[.int .i64 0, .int .i64 0, .int .i64 0, .int .i64 0, .slice none 0 0] :=
    ⟨(hI.below (below_alloc (Below.refl _ _) _)).below (below_alloc (Below.refl _ _) _), below_alloc (below_alloc hB _) _, keep_alloc (keep_alloc (KeepBut.refl _ _ _) _) _, hlt, blk_alloc (blk_new _ _) _, by have := blk_new (w.alloc (.cells #[.int .i64 0, .int .i64 0, .int .i64 0, .int .i64 0, .slice none 0 0] 52 (0, 0))) (.cells #[.int .i64 0, .int .i64 0, .int .i64 0, .int .i64 0, .slice none 0 0] 52 (0, 0)); simpa using this⟩
  have HS := Aside0.mk S0
  clear hI hB S0 hlt
  go_enter Try.func40, Try.ntmps40
  go_wp2_with fail
  have h01 := h0
  have h11 := h1
  rcases hx1 : byteF l p 1 4 with ⟨er, q⟩ | tag
  · refine (byte_bad g l p 1 4 er q w0 _ HS.out.I HS.out.B h01 h11 hx1).mono ?_
    rintro e w1 ⟨rfl, hB1, hK1⟩
    have hfin : stepF l p = .error (er, q) := by simp [stepF, hx1, bind, Except.bind]
    rw [hfin]
    exact ⟨rfl, rfl, hB1, HS.out.K.trans hK1 (.inl rfl)⟩
  refine (byte_ok g l p 1 4 tag w0 _ HS.out.I HS.out.B h01 h11 hx1).mono ?_
  rintro e w1 ⟨rfl, hI1, hB1, hK1⟩
  have S1 := Aside0.mk (HS.out.call hI1 hB1 hK1)
  obtain ⟨f1a, f1b, f1c⟩ := byteF_fits h01 h11 hx1
  have HX1 := Lib.hid hx1
  have c1 := blk_frozen S1.out.b3 0
  have hv1 := blk_cell S1.out.b3 0
  rw [Array.getElem?_eq_getElem (by simp)] at hv1
  have T1 := Aside0.mk (S1.out.set 0 (.int .i64 (tag)))
  clear hI1 hB1 hK1 HS hx1
  go_wp2_with fail
  rcases hx2 : numF l (p + 1) 4095 with ⟨er, q⟩ | ⟨lit, p2⟩
  · refine (num_bad g l (p + 1) 4095 er q w0 _ T1.out.I T1.out.B hby hx2).mono ?_
    rintro e w1 ⟨rfl, hB1, hK1⟩
    have hfin : stepF l p = .error (er, q) := by simp [stepF, HX1.out, hx2, bind, Except.bind]
    rw [hfin]
    exact ⟨rfl, rfl, hB1, T1.out.K.trans hK1 (.inl rfl)⟩
  refine (num_ok g l (p + 1) 4095 lit p2 w0 _ T1.out.I T1.out.B hby hx2).mono ?_
  rintro e w2 ⟨rfl, hI1, hB1, hK1⟩
  have S2 := Aside0.mk (T1.out.call hI1 hB1 hK1)
  obtain ⟨f2a, f2b, f2c, f2d, f2e⟩ := numF_fits (by omega) (by omega) hx2
  have HX2 := Lib.hid hx2
  have c2 := blk_frozen S2.out.b3 1
  have hv2 := blk_cell S2.out.b3 1
  rw [Array.getElem?_eq_getElem (by simp)] at hv2
  have T2 := Aside0.mk (S2.out.set 1 (.int .i64 (lit)))
  clear hI1 hB1 hK1  hx2
  go_wp2_with fail
  have h03 : 0 ≤ p2 := by omega
  have h13 : p2 ≤ l.length := by omega
  rcases hx3 : byteF l p2 1 5 with ⟨er, q⟩ | how
  · refine (byte_bad g l p2 1 5 er q w0 _ T2.out.I T2.out.B h03 h13 hx3).mono ?_
    rintro e w1 ⟨rfl, hB1, hK1⟩
    have hfin : stepF l p = .error (er, q) := by simp [stepF, HX1.out, HX2.out, hx3, bind, Except.bind]
    rw [hfin]
    exact ⟨rfl, rfl, hB1, T2.out.K.trans hK1 (.inl rfl)⟩
  refine (byte_ok g l p2 1 5 how w0 _ T2.out.I T2.out.B h03 h13 hx3).mono ?_
  rintro e w3 ⟨rfl, hI1, hB1, hK1⟩
  have S3 := Aside0.mk (T2.out.call hI1 hB1 hK1)
  obtain ⟨f3a, f3b, f3c⟩ := byteF_fits h03 h13 hx3
  have HX3 := Lib.hid hx3
  have c3 := blk_frozen S3.out.b3 2
  have hv3 := blk_cell S3.out.b3 2
  rw [Array.getElem?_eq_getElem (by simp)] at hv3
  have T3 := Aside0.mk (S3.out.set 2 (.int .i64 (how)))
  clear hI1 hB1 hK1  hx3
  go_wp2_with fail
  rcases hx4 : numF l (p2 + 1) 4096 with ⟨er, q⟩ | ⟨r, p3⟩
  · refine (num_bad g l (p2 + 1) 4096 er q w0 _ T3.out.I T3.out.B hby hx4).mono ?_
    rintro e w1 ⟨rfl, hB1, hK1⟩
    have hfin : stepF l p = .error (er, q) := by simp [stepF, HX1.out, HX2.out, HX3.out, hx4, bind, Except.bind]
    rw [hfin]
    exact ⟨rfl, rfl, hB1, T3.out.K.trans hK1 (.inl rfl)⟩
  refine (num_ok g l (p2 + 1) 4096 r p3 w0 _ T3.out.I T3.out.B hby hx4).mono ?_
  rintro e w4 ⟨rfl, hI1, hB1, hK1⟩
  have S4 := Aside0.mk (T3.out.call hI1 hB1 hK1)
  obtain ⟨f4a, f4b, f4c, f4d, f4e⟩ := numF_fits (by omega) (by omega) hx4
  have HX4 := Lib.hid hx4
  have c4 := blk_frozen S4.out.b3 3
  have hv4 := blk_cell S4.out.b3 3
  rw [Array.getElem?_eq_getElem (by simp)] at hv4
  have T4 := Aside0.mk (S4.out.set 3 (.int .i64 (r - 1)))
  clear hI1 hB1 hK1  hx4
  go_wp2_with fail
  rcases hx5 : numF l p3 4096 with ⟨er, q⟩ | ⟨n, p4⟩
  · refine (num_bad g l p3 4096 er q w0 _ T4.out.I T4.out.B hby hx5).mono ?_
    rintro e w1 ⟨rfl, hB1, hK1⟩
    have hfin : stepF l p = .error (er, q) := by simp [stepF, HX1.out, HX2.out, HX3.out, HX4.out, hx5, bind, Except.bind]
    rw [hfin]
    exact ⟨rfl, rfl, hB1, T4.out.K.trans hK1 (.inl rfl)⟩
  refine (num_ok g l p3 4096 n p4 w0 _ T4.out.I T4.out.B hby hx5).mono ?_
  rintro e w5 ⟨rfl, hI1, hB1, hK1⟩
  have S5 := Aside0.mk (T4.out.call hI1 hB1 hK1)
  obtain ⟨f5a, f5b, f5c, f5d, f5e⟩ := numF_fits (by omega) (by omega) hx5
  have HX5 := Lib.hid hx5
  clear hI1 hB1 hK1  hx5
  go_wp2_with fail
  have N5 := Lib.hid (show ((n.toNat : Nat) : Int) = n by omega)
  obtain ⟨m, rfl⟩ := Int.eq_ofNat_of_zero_le f5d
  have hS5 := S5
  clear h01 h11 h03 h13 c1 c2 c3 c4 hv1 hv2 hv3 hv4 N5
  go_loopw [22] (fun v22 wr => ∃ (i : Nat) (pi : Int) (acc : List S54) (v : Value), i ≤ m ∧ v22 = .int .i64 i ∧ Aside0 (choF l m p4 = preC acc (choF l (m - i) pi)) ∧ Aside0 (acc.length = i) ∧ Aside0 (WrSt w0 w wr g l pi #[.int .i64 tag, .int .i64 lit, .int .i64 how, .int .i64 (r - 1), v]) ∧ Aside0 (Kd.R k54 54 wr (w.heap.size + 2) (fun k => w.heap.size + 2 ≤ k) v acc) ∧ 0 ≤ pi ∧ pi ≤ l.length) (fun v22 _ => m - (intOf v22).toNat)
  case atStart =>
    exact ⟨0, p4, [], .slice none 0 0, by omega, rfl, ⟨by rw [Nat.sub_zero]; exact (preC_nil _).symm⟩, ⟨rfl⟩, ⟨hS5.out⟩, ⟨Kd.R_nil _ _ _ _ _⟩, by omega, by omega⟩
  case round =>
    clear hS5
    obtain ⟨i, pi, acc, v, him, rfl, HC, HL, HS, HR, g0, g1⟩ := hrel
    by_cases hlt : i < m
    · obtain ⟨k, hk⟩ : ∃ k, m - i = k + 1 := ⟨m - i - 1, by omega⟩
      have HK := Lib.hid hk
      clear hk
      have e1 := HC.out
      rw [HK.out] at e1
      have fin : ∀ er q, choF l (k + 1) pi = .error (er, q) → stepF l p = .error (er, q) := fun er q h => by
        rw [h] at e1
        simp [stepF, HX1.out, HX2.out, HX3.out, HX4.out, HX5.out, bind, Except.bind, e1, preC]
      have FIN := Lib.hid fin
      clear e1 fin
      go_wp2_with fail
      rcases hy : numF l pi 16 with ⟨er, q⟩ | ⟨a, p5⟩
      · refine (num_bad g l pi 16 er q w0 _ HS.out.I HS.out.B hby hy).mono ?_
        rintro e w1 ⟨rfl, hB1, hK1⟩
        have FE := Lib.hid (FIN.out er q (by simp [choF, hy, bind, Except.bind]))
        unfold wrFlt
        clear hy
        go_wp2
        rw [FE.out]
        exact ⟨rfl, rfl, hB1, HS.out.K.trans hK1 (.inl rfl)⟩
      refine (num_ok g l pi 16 a p5 w0 _ HS.out.I HS.out.B hby hy).mono ?_
      rintro e w6 ⟨rfl, hI1, hB1, hK1⟩
      have S6 := Aside0.mk ((HS.out.call hI1 hB1 hK1).below (below_alloc (Below.refl _ _) (.cells #[.int .i64 (a - 1), .int .i64 0] 54 (0, 0))))
      have R6 := Aside0.mk (Kd.R_alloc (Kd.R_elderB (Kd.R_keep HR.out hK1 (fun k hk => by have := HS.out.lt; omega)) w6.heap.size (Nat.le_refl _)) (.cells #[.int .i64 (a - 1), .int .i64 0] 54 (0, 0)))
      have b6 := Aside0.mk (blk_new w6 (.cells #[.int .i64 (a - 1), .int .i64 0] 54 (0, 0)))
      have q6 := Aside0.mk (show w.heap.size + 2 ≤ w6.heap.size from by have := blk_lt (HS.out.call hI1 hB1 hK1).b3; omega)
      obtain ⟨ga, gb, gc, gd, ge⟩ := numF_fits (by omega) (by omega) hy
      have HY := Lib.hid hy
      clear hI1 hB1 hK1 HS HR hy
      go_wp2_with fail
      rcases hz : numF l p5 4096 with ⟨er, q⟩ | ⟨b, p6⟩
      · refine (num_bad g l p5 4096 er q w0 _ S6.out.I S6.out.B hby hz).mono ?_
        rintro e w1 ⟨rfl, hB1, hK1⟩
        have FE := Lib.hid (FIN.out er q (by simp [choF, HY.out, hz, bind, Except.bind]))
        unfold wrFlt
        clear hz
        go_wp2
        rw [FE.out]
        exact ⟨rfl, rfl, hB1, S6.out.K.trans hK1 (.inl rfl)⟩
      refine (num_ok g l p5 4096 b p6 w0 _ S6.out.I S6.out.B hby hz).mono ?_
      rintro e w7 ⟨rfl, hI1, hB1, hK1⟩
      have S7 := Aside0.mk (S6.out.call hI1 hB1 hK1)
      have g7 : g < w6.heap.size := by have := q6.out; have := S6.out.lt; omega
      have R7 := Aside0.mk (Kd.R_keep R6.out hK1 (fun k hk => by have := S6.out.lt; have := hk.1; omega))
      have b7 := Aside0.mk (hK1.blk b6.out (by omega) (by simp))
      obtain ⟨ka, kb, kc, kd, ke⟩ := numF_fits (by omega) (by omega) hz
      have HZ := Lib.hid hz
      have x0 : w7.cell? ⟨w6.heap.size, 0, none⟩ = some (.int .i64 (a - 1)) := (blk_cell b7.out 0).trans rfl
      have x1 : w7.cell? ⟨w6.heap.size, 1, none⟩ = some (.int .i64 0) := (blk_cell b7.out 1).trans rfl
      have xf := blk_frozen b7.out 1
      have x4 : w7.cell? ⟨w.heap.size + 1, 4, none⟩ = some v := (blk_cell S7.out.b3 4).trans rfl
      have xf4 := blk_frozen S7.out.b3 4
      have sz7 := Aside0.mk (blk_lt b7.out)
      have T7 := Aside0.mk (S7.out.far (a := ⟨w6.heap.size, 1, none⟩) q6.out (.int .i64 (b - 1)))
      have U7 := Aside0.mk (Kd.R_mono (Kd.R_far (p := ⟨w6.heap.size, 1, none⟩) R7.out (fun k hk => hk.2) (.int .i64 (b - 1))) (fun k hk => hk.1))
      clear hI1 hB1 hK1 S6 R6 b6 hz S7 R7
      go_wp2_with ((with_reducible refine gate_builtin (b := .append) (xs := #[.tmp 33, .tmp 35]) rfl ?_); at_builtin; refine Kd.R_append k54 (w0 := w7.setCell ⟨w6.heap.size, 1, none⟩ (.int .i64 (b - 1))) (w.heap.size + 2) rfl (.tmp 33) (.tmp 35) 50 54 (.agg #[(.int .i64 0), (.int .i64 0)]) 16 rfl Try.underlying50 info54 rfl (by decide) (by omega) v acc (⟨a - 1, b - 1⟩ : S54) [.int .i64 (a - 1), .int .i64 (b - 1)] (fun k => w.heap.size + 2 ≤ k) (fun _ => False) rfl ?aX ?aP (fun _ hk => hk.elim) ?aF ?aO ?aB ?aS ?aL ?_; (case aX => exact congrArg (fun z => Value.slice (some ⟨z, 0, none⟩) 1 1) (World.size_setCell w7 ⟨w6.heap.size, 1, none⟩ (.int .i64 (b - 1))).symm); (case aP => exact k54_mkM _ _ _ (⟨a - 1, b - 1⟩ : S54)); (case aF => exact fun k hk => by have := q6.out; have := sz7.out; simp at hk; omega); (case aO => exact U7.out); (case aB => exact Below.refl _ _); (case aS => have := q6.out; have := sz7.out; simp; omega); (case aL => rw [HL.out]; omega); intro v1 w8 hR1 hB1 hg1 hat1; obtain ⟨Ao, co, eo⟩ := Kd.R_slice hR1; subst eo; have S8 := Aside0.mk (T7.out.grown hg1 U7.out.1); have R8 := Aside0.mk hR1; have x8 : w8.cell? ⟨w.heap.size + 1, 4, none⟩ = some v := (blk_cell S8.out.b3 4).trans rfl; have xf8 := blk_frozen S8.out.b3 4; clear hR1 hB1 hg1 hat1 T7 U7)
      have e8 : (acc ++ [(⟨a - 1, b - 1⟩ : S54)]).length = acc.length + 1 := by simp
      have R9 := R8.out
      rw [e8] at R9
      have hki : m - (i + 1) = k := by have := HK.out; omega
      refine ⟨⟨i + 1, p6, acc ++ [⟨a - 1, b - 1⟩], .slice Ao (acc.length + 1) co, by omega, rfl, ⟨?_⟩, ⟨by rw [e8, HL.out]⟩, ⟨S8.out.set 4 (.slice Ao (acc.length + 1) co)⟩, ⟨Kd.R_far (p := ⟨w.heap.size + 1, 4, none⟩) R9 (fun k hk => by simp only; omega) _⟩, by omega, by omega⟩, by simp [intOf]; omega⟩
      rw [HC.out, HK.out, hki, preC_snoc, choF_succ HY.out HZ.out]
    · obtain rfl : i = m := by omega
      obtain ⟨Av, cv, ev⟩ := Kd.R_slice HR.out
      subst ev
      have e0 : wr.cell? ⟨w.heap.size + 1, 0, none⟩ = some (.int .i64 tag) := (blk_cell HS.out.b3 0).trans rfl
      have e1 : wr.cell? ⟨w.heap.size + 1, 1, none⟩ = some (.int .i64 lit) := (blk_cell HS.out.b3 1).trans rfl
      have e2 : wr.cell? ⟨w.heap.size + 1, 2, none⟩ = some (.int .i64 how) := (blk_cell HS.out.b3 2).trans rfl
      have e3 : wr.cell? ⟨w.heap.size + 1, 3, none⟩ = some (.int .i64 (r - 1)) := (blk_cell HS.out.b3 3).trans rfl
      have e4 : wr.cell? ⟨w.heap.size + 1, 4, none⟩ = some (.slice Av acc.length cv) := (blk_cell HS.out.b3 4).trans rfl
      have z0 : wr.cell? ⟨w.heap.size, 0, none⟩ = some (.int .i64 0) := (blk_cell HS.out.b2 0).trans rfl
      have z1 : wr.cell? ⟨w.heap.size, 1, none⟩ = some (.int .i64 0) := (blk_cell HS.out.b2 1).trans rfl
      have z2 : wr.cell? ⟨w.heap.size, 2, none⟩ = some (.int .i64 0) := (blk_cell HS.out.b2 2).trans rfl
      have z3 : wr.cell? ⟨w.heap.size, 3, none⟩ = some (.int .i64 0) := (blk_cell HS.out.b2 3).trans rfl
      have z4 : wr.cell? ⟨w.heap.size, 4, none⟩ = some (.slice none 0 0) := (blk_cell HS.out.b2 4).trans rfl
      have y0 := blk_frozen HS.out.b2 0
      have y1 := blk_frozen HS.out.b2 1
      have y2 := blk_frozen HS.out.b2 2
      have y3 := blk_frozen HS.out.b2 3
      have y4 := blk_frozen HS.out.b2 4
      go_wp2
      refine bodyPost_ret (results_cell_row rfl _ _ w.heap.size 52 #[.int .i64 tag, .int .i64 lit, .int .i64 how, .int .i64 (r - 1), .slice Av acc.length cv] (0, 0) _ rfl (by
        refine blk_put (cs := #[.int .i64 tag, .int .i64 lit, .int .i64 how, .int .i64 (r - 1), .slice none 0 0]) ?_ 4 _ rfl
        refine blk_put (cs := #[.int .i64 tag, .int .i64 lit, .int .i64 how, .int .i64 0, .slice none 0 0]) ?_ 3 _ rfl
        refine blk_put (cs := #[.int .i64 tag, .int .i64 lit, .int .i64 0, .int .i64 0, .slice none 0 0]) ?_ 2 _ rfl
        refine blk_put (cs := #[.int .i64 tag, .int .i64 0, .int .i64 0, .int .i64 0, .slice none 0 0]) ?_ 1 _ rfl
        refine blk_put (cs := #[.int .i64 0, .int .i64 0, .int .i64 0, .int .i64 0, .slice none 0 0]) ?_ 0 _ rfl
        exact HS.out.b2) Try.underlying52 rfl (by kernel_rfl)) rfl ?_
      have hfin : stepF l p = .ok (⟨tag, lit, how, r - 1, acc⟩, pi) := by
        have hc := HC.out
        rw [Nat.sub_self] at hc
        simp [stepF, HX1.out, HX2.out, HX3.out, HX4.out, HX5.out, bind, Except.bind, hc, choF, preC, pure, Except.pure]
      rw [hfin]
      have hlt' := HS.out.lt
      have ne : g ≠ w.heap.size := by omega
      refine ⟨_, rfl, ?_, ?_, ?_, ?_⟩
      · refine Kd.R_lower (Kd.R_mono (ok := fun k => w.heap.size + 2 ≤ k) ?_ (fun _ _ => trivial)) (Nat.le_add_right _ 2)
        exact Kd.R_far (Kd.R_far (Kd.R_far (Kd.R_far (Kd.R_far HR.out (fun k hk => by simp only; omega) _) (fun k hk => by simp only; omega) _) (fun k hk => by simp only; omega) _) (fun k hk => by simp only; omega) _) (fun k hk => by simp only; omega) _
      · exact ((((HS.out.I.far ne _).far ne _).far ne _).far ne _).far ne _
      · have hz : w0.heap.size ≤ w.heap.size := by obtain ⟨_, _, _, hg, _⟩ := HS.out.I; omega
        exact ((((HS.out.B.setCell hz _).setCell hz _).setCell hz _).setCell hz _).setCell hz _
      · have hz := Nat.le_refl w.heap.size
        exact keep_far (keep_far (keep_far (keep_far (keep_far HS.out.K hz _) hz _) hz _) hz _) hz _


end Go.Proofs.Ytccoeecladhfmaa.P
