-- Written by lexprint.py, a program of this session's own that runs the kit's print with turned rows. Lean checks it.
import Derived.Test.YtccoeecladhfmaaPx0
import Derived.Test.YtccoeecladhfmaaPx3
namespace Go.Proofs.Ytccoeecladhfmaa.P
open Go.RowKit Go.Proofs.YtccoeecladhfmaaW.PrintWords Go.Proofs.YtccoeecladhfmaaW.PrintLast Go.Proofs.YtccoeecladhfmaaW.PrintMore
attribute [local go_sem] max2_int min2_int max_two min_two max_three min_three max_four min_four   -- for this text's walks alone
set_option linter.unusedVariables false
set_option linter.unusedSimpArgs false

/-! ### octets_Uint: function 23 -/
def octets_Uint.l0 : Nat → Int → List Int → Option (List Int)
  | 0, _, _ => none
  | k + 1, x0, x3 => if x0 ≥ 128 then (if x3.length < 140737488355328 then (octets_Uint.l0 k (x0 / 128) (x3 ++ [Go.bits .or .u8 ((x0) % 256) 128])) else (none)) else (if x3.length < 140737488355328 then (some (x3 ++ [(x0) % 256])) else (none))
def octets_Uint.f (k : Nat) (a0 : Int) : Option (List Int) := octets_Uint.l0 k a0 ([] : List Int)
theorem octets_Uint.mono_l : ∀ k, (∀ y0 y1, LeO (octets_Uint.l0 k y0 y1) (octets_Uint.l0 (k + 1) y0 y1))
  | 0 => fun _ _ r h => by simp [octets_Uint.l0] at h
  | k + 1 => by
    have ih0 := octets_Uint.mono_l k
    · intro y0 y1
      unfold octets_Uint.l0
      repeat' first
      | (with_reducible exact ih0 _ _)
      | (with_reducible exact LeO.refl _)
      | (with_reducible exact LeO.none _)
      | (with_reducible refine LeO.ite ?_ ?_)
      | (with_reducible refine LeO.bind ?_ (fun _ => ?_))
      | exact ih0 _ _
      | exact LeO.none _
      | refine LeO.ite ?_ ?_
      | refine LeO.bind ?_ (fun _ => ?_)
theorem octets_Uint.mono : ∀ a0 k, LeO (octets_Uint.f k a0) (octets_Uint.f (k + 1) a0) := by
  intro a0 k
  have ih0 := octets_Uint.mono_l k
  unfold octets_Uint.f
  repeat' first
      | (with_reducible exact ih0 _ _)
      | (with_reducible exact LeO.refl _)
      | (with_reducible exact LeO.none _)
      | (with_reducible refine LeO.ite ?_ ?_)
      | (with_reducible refine LeO.bind ?_ (fun _ => ?_))
      | exact ih0 _ _
      | exact LeO.none _
      | refine LeO.ite ?_ ?_
      | refine LeO.bind ?_ (fun _ => ?_)
set_option maxHeartbeats 8000000 in
set_option maxRecDepth 100000 in
theorem octets_Uint.calls (k : Nat) (a0 : Int) (r : List Int) (w : World) (h : octets_Uint.f k a0 = some r) :
    Calls Try.prog 23 #[.int .u64 a0] w fun e w' => ∃ v0_ : Value, e = .returned (v0_) ∧ Kd.R (Kd.int .u8) 5 w' w.heap.size (fun _ => True) v0_ r ∧ Below w.heap.size w w' := by
  have HB := Aside0.mk (Below.refl w.heap.size w)
  have H : (octets_Uint.l0 k a0 ([] : List Int)) = some r := h
  clear h
  have H' := Aside0.mk H
  clear H
  go_enter Try.func23, Try.ntmps23
  go_wp2
  go_loopg [0, 3] k (fun kq v0 v3 w' => ∃ (x0_1 : Int) (x3_1 : List Int), v0 = .int .u64 x0_1 ∧ Aside0 (octets_Uint.l0 kq x0_1 x3_1 = some r) ∧ Aside0 (kq ≤ k) ∧ Aside0 (Kd.R (Kd.int .u8) 5 w' w.heap.size (fun _ => True) v3 x3_1) ∧ Aside0 (Below w.heap.size w w'))
  case atStart => exact ⟨(a0), (([] : List Int)), (by first | rfl | (simp; done) | (simp [*]; done)), H', ⟨Nat.le_refl _⟩, ⟨by first | exact Kd.R_nil _ _ _ _ _ | exact Kd.N_nil _ _ _ _ _ | exact Kd.V_nil _ _ _ _ _ | exact Kd.Q_nil _ _ _ _ _ | exact Kd.S_nil _ _ _ _ _⟩, ⟨by repeat (first | (with_reducible first | exact HB.out | apply below_alloc | apply pw_below_drewN | apply below_drew1) | exact HB.out)⟩⟩
  case round =>
    clear H'
    obtain ⟨x0_1, x3_1, rfl, HA, HK1, HO_3, HB⟩ := hrel
    cases gk with
    | zero => exact absurd HA.out (by simp [octets_Uint.l0])
    | succ k1 =>
      have H := HA.out
      clear HA
      simp only [octets_Uint.l0] at H
      by_cases c2 : x0_1 ≥ 128
      · rw [if_pos c2] at H
        have c2b0 : decide (128 ≤ x0_1) = true := decide_eq_true c2
        clear c2
        by_cases c3 : x3_1.length < 140737488355328
        · rw [if_pos c3] at H
          have LMc3 := Aside0.mk c3
          clear c3
          obtain ⟨y137, hy137⟩ : ∃ y_ : List Int, y_ = (x3_1 ++ [Go.bits .or .u8 ((x0_1) % 256) 128]) := ⟨_, rfl⟩
          replace H : (octets_Uint.l0 k1 (x0_1 / 128) y137) = some r := by first | (rw [hy137]; with_reducible exact H) | (have H2_ := (Option.bind_some _ _).symm.trans H; rw [hy137]; with_reducible exact H2_) | (have H2_ := (Option.bind_some _ _).symm.trans H; with_reducible exact H2_) | with_reducible exact H | (rw [hy137]; exact H) | exact H
          have Ny137 := Aside0.mk hy137
          clear hy137
          have H' := Aside0.mk H
          clear H
          go_wp2_with (first | ((with_reducible refine gate_builtin (b := .append) (xs := #[.tmp 8, .tmp 12]) rfl ?_); at_builtin; refine Kd.R_append (Kd.int .u8) (w0 := w) w.heap.size rfl (.tmp 8) (.tmp 12) 29 5 (.int .u8 0) 1 rfl Try.underlying29 info5 rfl (by decide) (by omega) u3 x3_1 (Go.bits .or .u8 ((x0_1) % 256) 128) [.int .u8 (Go.bits .or .u8 ((x0_1) % 256) 128)] (fun _ => True) (fun _ => False) rfl rfl ?aP (fun _ hk => hk.elim) ?aF ?aO ?aB ?aS ?aL ?_; (case aP => exact rfl); (case aB => exact (by repeat (first | (with_reducible first | exact HB.out | apply below_alloc | apply pw_below_drewN | apply below_drew1) | exact HB.out))); (case aF => exact (fun _ _ => trivial)); (case aO => exact (by (with_reducible repeat (first | apply Kd.R_alloc | apply Kd.R_drewN | apply Kd.R_drew)); exact HO_3.out)); (case aS => exact (below_size (by repeat (first | (with_reducible first | exact HB.out | apply below_alloc | apply pw_below_drewN | apply below_drew1) | exact HB.out)))); (case aL => have := LMc3.out; omega); intro v138 w4 ho hb hg hat; rw [← Ny137.out] at ho; have n0_ := Aside0.mk (hb); have n1_ := Aside0.mk (ho); clear HB; clear HO_3; have HB := n0_; have HO139 := n1_; clear n0_ n1_; clear ho hb hg hat))
          go_roundg k1
          case measure => have := HK1.out; omega
          case rel => exact ⟨(x0_1 / 128), (y137), (by first | rfl | (simp; done) | (simp [*]; done)), H', ⟨by have := HK1.out; omega⟩, ⟨by (with_reducible repeat (first | apply Kd.R_alloc | apply Kd.R_drewN | apply Kd.R_drew)); exact HO139.out⟩, ⟨by repeat (first | (with_reducible first | exact HB.out | apply below_alloc | apply pw_below_drewN | apply below_drew1) | exact HB.out)⟩⟩
        · rw [if_neg c3] at H
          exact absurd H (by simp)
      · rw [if_neg c2] at H
        have c2b0 : decide (128 ≤ x0_1) = false := decide_eq_false c2
        clear c2
        by_cases c5 : x3_1.length < 140737488355328
        · rw [if_pos c5] at H
          have LMc5 := Aside0.mk c5
          clear c5
          obtain ⟨y140, hy140⟩ : ∃ y_ : List Int, y_ = (x3_1 ++ [(x0_1) % 256]) := ⟨_, rfl⟩
          replace H : (some y140) = some r := by first | (rw [hy140]; with_reducible exact H) | (have H2_ := (Option.bind_some _ _).symm.trans H; rw [hy140]; with_reducible exact H2_) | (have H2_ := (Option.bind_some _ _).symm.trans H; with_reducible exact H2_) | with_reducible exact H | (rw [hy140]; exact H) | exact H
          have Ny140 := Aside0.mk hy140
          clear hy140
          obtain rfl := Option.some.inj H
          go_wp2_with (first | ((with_reducible refine gate_builtin (b := .append) (xs := #[.tmp 14, .tmp 17]) rfl ?_); at_builtin; refine Kd.R_append (Kd.int .u8) (w0 := w) w.heap.size rfl (.tmp 14) (.tmp 17) 29 5 (.int .u8 0) 1 rfl Try.underlying29 info5 rfl (by decide) (by omega) u3 x3_1 ((x0_1) % 256) [.int .u8 ((x0_1) % 256)] (fun _ => True) (fun _ => False) rfl rfl ?aP (fun _ hk => hk.elim) ?aF ?aO ?aB ?aS ?aL ?_; (case aP => exact rfl); (case aB => exact (by repeat (first | (with_reducible first | exact HB.out | apply below_alloc | apply pw_below_drewN | apply below_drew1) | exact HB.out))); (case aF => exact (fun _ _ => trivial)); (case aO => exact (by (with_reducible repeat (first | apply Kd.R_alloc | apply Kd.R_drewN | apply Kd.R_drew)); exact HO_3.out)); (case aS => exact (below_size (by repeat (first | (with_reducible first | exact HB.out | apply below_alloc | apply pw_below_drewN | apply below_drew1) | exact HB.out)))); (case aL => have := LMc5.out; omega); intro v141 w6 ho hb hg hat; rw [← Ny140.out] at ho; have n0_ := Aside0.mk (hb); have n1_ := Aside0.mk (ho); clear HB; clear HO_3; have HB := n0_; have HO142 := n1_; clear n0_ n1_; clear ho hb hg hat))
          go_ret
          exact ⟨_, by first | rfl | (simp [errW_none, errW_some] <;> rfl) | (simp [*, errW_none, errW_some] <;> rfl), by (with_reducible repeat (first | apply Kd.R_alloc | apply Kd.R_drewN | apply Kd.R_drew)); exact HO142.out, by repeat (first | (with_reducible first | exact HB.out | apply below_alloc | apply pw_below_drewN | apply below_drew1) | exact HB.out)⟩
        · rw [if_neg c5] at H
          exact absurd H (by simp)

/-! ### wire_little: function 24 -/
theorem part_u8 (xs : Array Value) (i : Nat) (v : Value) (h : xs[i]? = some v) (w : World) : (part 5 xs i).run Try.prog w = .ok v w := by
  simp [part, h]
theorem run_eq4 (d : Nat) (a0 a1 a2 a3 b0 b1 b2 b3 : Int) (w : World) : (Op.equalIn (d + 2) 60 (.agg #[.int .u8 a0, .int .u8 a1, .int .u8 a2, .int .u8 a3]) (.agg #[.int .u8 b0, .int .u8 b1, .int .u8 b2, .int .u8 b3])).run Try.prog w = .ok (a0 == b0 && (a1 == b1 && (a2 == b2 && a3 == b3))) w := by
  rw [Op.equalIn]
  have hs : ∀ w, (sizeOf 5).run Try.prog w = .ok 1 w := fun w => by kernel_rfl
  simp only [Sem.run_bind, run_underlying Try.underlying60, Result.andThen_ok, hs]
  simp [Std.Legacy.Range.forIn_eq_forIn_range', part_u8, run_equalIn_int, Try.underlying5, List.range']
  by_cases h0 : a0 = b0 <;> by_cases h1 : a1 = b1 <;> by_cases h2 : a2 = b2 <;> by_cases h3 : a3 = b3 <;> simp [h0, h1, h2, h3]
theorem run_neq4 (a0 a1 a2 a3 b0 b1 b2 b3 : Int) (w : World) : (binOp .neq 60 (.agg #[.int .u8 a0, .int .u8 a1, .int .u8 a2, .int .u8 a3]) (.agg #[.int .u8 b0, .int .u8 b1, .int .u8 b2, .int .u8 b3])).run Try.prog w = .ok (.bool (!(a0 == b0 && (a1 == b1 && (a2 == b2 && a3 == b3))))) w := by
  simp only [binOp]
  simp only [Op.equal, Op.maxDepth]
  simp [run_eq4 9998]
def lit4 (n : Int) : Nat → Int
  | 0 => n % 256
  | 1 => n / 256 % 256
  | 2 => n / 65536 % 256
  | _ => n / 16777216 % 256
def lrow (n : Int) (k : Nat) : Array Value := #[.int .u8 (if 0 < k then lit4 n 0 else 0), .int .u8 (if 1 < k then lit4 n 1 else 0), .int .u8 (if 2 < k then lit4 n 2 else 0), .int .u8 (if 3 < k then lit4 n 3 else 0)]
set_option maxHeartbeats 1000000 in
theorem little_any (n : Int) (w : World) (h0 : 0 ≤ n) (h1 : n < 4294967296) :
    Calls Try.prog 24 #[.int .u32 n] w fun e w' => e = .returned (.agg (lrow n 4)) ∧ Below w.heap.size w w' := by
  go_enter Try.func24, Try.ntmps24
  go_wp2
  go_loopw [5] (fun v5 wr => ∃ i : Nat, i ≤ 4 ∧ v5 = .int .i64 i ∧ Aside0 (wr.heap[w.heap.size]? = some (.cells #[.int .u8 0, .int .u8 0, .int .u8 0, .int .u8 0] 60 (0, 0))) ∧ Aside0 (wr.heap[w.heap.size + 1]? = some (.cells (lrow n i) 60 (0, 0))) ∧ Aside0 (Below w.heap.size w wr)) (fun v5 _ => 4 - (intOf v5).toNat)
  case atStart =>
    exact ⟨0, by omega, rfl, ⟨blk_alloc (blk_new _ _) _⟩, ⟨by have := blk_new (w.alloc (.cells #[.int .u8 0, .int .u8 0, .int .u8 0, .int .u8 0] 60 (0, 0))) (.cells #[.int .u8 0, .int .u8 0, .int .u8 0, .int .u8 0] 60 (0, 0)); simpa [lrow] using this⟩, ⟨below_alloc (below_alloc (Below.refl _ _) _) _⟩⟩
  case round =>
    obtain ⟨i, hi, rfl, HB2, HB3, HB⟩ := hrel
    have c0 := blk_frozen HB3.out i
    have hcase : i = 4 ∨ i = 0 ∨ i = 1 ∨ i = 2 ∨ i = 3 := by omega
    rcases hcase with rfl | hc
    · have e0 : wr.cell? ⟨w.heap.size + 1, 0, none⟩ = some (.int .u8 (lit4 n 0)) := (blk_cell HB3.out 0).trans rfl
      have e1 : wr.cell? ⟨w.heap.size + 1, 1, none⟩ = some (.int .u8 (lit4 n 1)) := (blk_cell HB3.out 1).trans rfl
      have e2 : wr.cell? ⟨w.heap.size + 1, 2, none⟩ = some (.int .u8 (lit4 n 2)) := (blk_cell HB3.out 2).trans rfl
      have e3 : wr.cell? ⟨w.heap.size + 1, 3, none⟩ = some (.int .u8 (lit4 n 3)) := (blk_cell HB3.out 3).trans rfl
      have z0 : wr.cell? ⟨w.heap.size, 0, none⟩ = some (.int .u8 0) := (blk_cell HB2.out 0).trans rfl
      have z1 : wr.cell? ⟨w.heap.size, 1, none⟩ = some (.int .u8 0) := (blk_cell HB2.out 1).trans rfl
      have z2 : wr.cell? ⟨w.heap.size, 2, none⟩ = some (.int .u8 0) := (blk_cell HB2.out 2).trans rfl
      have z3 : wr.cell? ⟨w.heap.size, 3, none⟩ = some (.int .u8 0) := (blk_cell HB2.out 3).trans rfl
      have y0 := blk_frozen HB2.out 0
      have y1 := blk_frozen HB2.out 1
      have y2 := blk_frozen HB2.out 2
      have y3 := blk_frozen HB2.out 3
      go_wp2
      refine bodyPost_ret (results_cell_row rfl _ _ w.heap.size 60 (lrow n 4) (0, 0) _ rfl (by
        refine blk_put (cs := #[.int .u8 (lit4 n 0), .int .u8 (lit4 n 1), .int .u8 (lit4 n 2), .int .u8 0]) ?_ 3 _ rfl
        refine blk_put (cs := #[.int .u8 (lit4 n 0), .int .u8 (lit4 n 1), .int .u8 0, .int .u8 0]) ?_ 2 _ rfl
        refine blk_put (cs := #[.int .u8 (lit4 n 0), .int .u8 0, .int .u8 0, .int .u8 0]) ?_ 1 _ rfl
        refine blk_put (cs := #[.int .u8 0, .int .u8 0, .int .u8 0, .int .u8 0]) ?_ 0 _ rfl
        exact HB2.out) Try.underlying60 rfl (by kernel_rfl)) rfl ?_
      have hz := Nat.le_refl w.heap.size
      exact ⟨rfl, (((HB.out.setCell hz _).setCell hz _).setCell hz _).setCell hz _⟩
    · have hlt : i < 4 := by omega
      obtain ⟨vv, hvv⟩ : ∃ vv, wr.cell? ⟨w.heap.size + 1, i, none⟩ = some vv := ⟨_, (blk_cell HB3.out i).trans (Array.getElem?_eq_getElem (by simp [lrow]; omega))⟩
      have hz : w.heap.size ≤ w.heap.size + 1 := Nat.le_add_right _ 1
      have hr : n / 16777216 = n / 16777216 % 256 := by omega
      have HRR := Lib.hid hr
      clear hr
      rcases hc with rfl | rfl | rfl | rfl
      · go_wp2
        go_roundw
        case rel => exact ⟨0 + 1, by omega, by rfl, ⟨blk_far HB2.out (by simp) _⟩, ⟨by refine blk_put HB3.out 0 _ ?_; rfl⟩, ⟨HB.out.setCell hz _⟩⟩
        case measure => simp [intOf]
      · go_wp2
        go_roundw
        case rel => exact ⟨1 + 1, by omega, by rfl, ⟨blk_far HB2.out (by simp) _⟩, ⟨by refine blk_put HB3.out 1 _ ?_; rfl⟩, ⟨HB.out.setCell hz _⟩⟩
        case measure => simp [intOf]
      · go_wp2
        go_roundw
        case rel => exact ⟨2 + 1, by omega, by rfl, ⟨blk_far HB2.out (by simp) _⟩, ⟨by refine blk_put HB3.out 2 _ ?_; rfl⟩, ⟨HB.out.setCell hz _⟩⟩
        case measure => simp [intOf]
      · go_wp2
        go_roundw
        case rel => exact ⟨3 + 1, by omega, by rfl, ⟨blk_far HB2.out (by simp) _⟩, ⟨by refine blk_put HB3.out 3 _ ?_; rw [HRR.out]; rfl⟩, ⟨HB.out.setCell hz _⟩⟩
        case measure => simp [intOf]


/-! ### octets_Sum: function 25 -/
def octets_Sum.f (l0 : List Int) : Option Int := some (crcL l0)
def row (k : Nat) : Array Value := ((List.range 16).map fun i => Value.int .u32 (if i < k then tabv i else 0)).toArray
theorem row0 : row 0 = #[.int .u32 0, .int .u32 0, .int .u32 0, .int .u32 0, .int .u32 0, .int .u32 0, .int .u32 0, .int .u32 0, .int .u32 0, .int .u32 0, .int .u32 0, .int .u32 0, .int .u32 0, .int .u32 0, .int .u32 0, .int .u32 0] := rfl
theorem row_at (k i : Nat) (h : i < 16) : (row k)[i]? = some (.int .u32 (if i < k then tabv i else 0)) := by
  unfold row
  simp [List.getElem?_map, List.getElem?_range h]
theorem row_step (k : Nat) (h : k < 16) : (row k).setIfInBounds k (.int .u32 (itr k 4)) = row (k + 1) := by
  apply Array.ext_getElem?
  intro i
  rw [Array.getElem?_setIfInBounds]
  by_cases h1 : k = i
  · subst h1
    rw [if_pos rfl, row_at _ _ h, if_pos (by simp [row]; exact h), if_pos (by omega)]
    rfl
  · rw [if_neg h1]
    by_cases h2 : i < 16
    · rw [row_at _ _ h2, row_at _ _ h2]
      have : (i < k + 1) = (i < k) := by apply propext; omega
      simp only [this]
    · rw [Array.getElem?_eq_none (by simp [row]; omega), Array.getElem?_eq_none (by simp [row]; omega)]

theorem bits_and15 (s : Int) : 0 ≤ Go.bits .and .u32 s 15 ∧ Go.bits .and .u32 s 15 < 16 := by
  simp only [Go.bits]
  have h : (BitVec.ofInt IntKind.u32.bits s &&& BitVec.ofInt IntKind.u32.bits 15).toNat ≤ 15 := by
    rw [BitVec.toNat_and]
    exact Nat.le_trans Nat.and_le_right (by decide)
  rw [IntKind.wrap_u32]
  omega
theorem crcF_snoc (l : List Int) (k : Nat) (h : k < l.length) : crcF (l.take (k + 1)) = crcB (crcF (l.take k)) (rd l k) := by
  unfold crcF rd
  rw [List.take_succ_eq_append_getElem h, List.foldl_append]
  simp [List.getD_eq_getElem?_getD, List.getElem?_eq_getElem h]

theorem cell16 {w : World} {B : Nat} (h : w.heap[B]? = some (.cells (row 16) 81 (0, 0))) (i : Int) (h0 : 0 ≤ i) (h1 : i < 16) : w.cell? ⟨B, i.toNat, none⟩ = some (.int .u32 (tabv i.toNat)) := by
  rw [blk_cell h, row_at _ _ (by omega), if_pos (by omega)]
theorem octets_Sum.calls (A0 : Option Addr) (c0 : Nat) (l0 : List Int) (r : Int) (w : World) (hr0 : Kd.C (Kd.int .u8) w A0 l0.length l0) (hc0 : l0.length ≤ c0) (h : octets_Sum.f l0 = some r) :
    Calls Try.prog 25 #[.slice A0 l0.length c0] w fun e w' => e = .returned (.int .u32 r) ∧ Below w.heap.size w w' := by
  have HE := Lib.hid (Option.some.inj h)
  clear h
  have HR0 := Aside0.mk hr0
  have HC0 := Aside0.mk hc0
  clear hr0 hc0
  go_enter Try.func25, Try.ntmps25
  go_wp2
  go_loopw [9] (fun v9 wr => ∃ k : Nat, k ≤ 16 ∧ v9 = .int .i64 k ∧ Aside0 (wr.heap[w.heap.size]? = some (.cells (row k) 81 (0, 0))) ∧ Aside0 (Below w.heap.size w wr)) (fun v9 _ => 16 - (intOf v9).toNat)
  case atStart => exact ⟨0, by omega, rfl, ⟨by rw [row0]; exact blk_new _ _⟩, ⟨below_alloc (Below.refl _ _) _⟩⟩
  case round =>
    obtain ⟨k, hk, rfl, HBk, HBe⟩ := hrel
    by_cases hlt : k < 16
    · go_wp2
      go_loop [5, 14] (fun v5 v14 => ∃ j : Nat, j ≤ 4 ∧ v14 = .int .i64 j ∧ v5 = .int .u32 (itr k j)) (fun _ v14 => 4 - (intOf v14).toNat)
      case atStart => exact ⟨0, by omega, rfl, rfl⟩
      case round =>
        obtain ⟨j, hj, rfl, rfl⟩ := hrel
        by_cases hjl : j < 4
        · have HS : Hid (itr k (j + 1) = crc1 (itr k j)) := Lib.hid rfl
          by_cases hb : Go.bits .and .u32 (itr k j) 1 = 1
          · have hb' : (Go.bits .and .u32 (itr k j) 1 == 1) = true := beq_iff_eq.2 hb
            have HB := Lib.hid hb
            clear hb
            go_wp2
            go_round
            case rel => exact ⟨j + 1, by omega, by go_num, by rw [HS.out, crc1, if_pos HB.out]⟩
            case measure => simp [intOf]; omega
          · have hb' : (Go.bits .and .u32 (itr k j) 1 == 1) = false := beq_eq_false_iff_ne.2 hb
            have HB := Lib.hid hb
            clear hb
            go_wp2
            go_round
            case rel => exact ⟨j + 1, by omega, by go_num, by rw [HS.out, crc1, if_neg HB.out]⟩
            case measure => simp [intOf]; omega
        · obtain rfl : j = 4 := by omega
          have hcell : wr.cell? ⟨w.heap.size, k, none⟩ = some (.int .u32 0) := by rw [blk_cell HBk.out, row_at _ _ hlt, if_neg (by omega)]
          have hfr := blk_frozen HBk.out k
          go_wp2
          go_roundw
          case rel => exact ⟨k + 1, by omega, by go_num, ⟨by rw [← row_step k hlt]; exact blk_set HBk.out _ _⟩, ⟨below_set HBe.out (Nat.le_refl _)⟩⟩
          case measure => simp [intOf]; omega
    · obtain rfl : k = 16 := by omega
      have hC := Kd.C_below HR0.out HBe.out
      have HCr := Aside0.mk hC
      clear hC
      go_wp2
      go_loop [6, 31] (fun v6 v31 => ∃ n : Nat, n ≤ l0.length ∧ v31 = .int .i64 n ∧ v6 = .int .u32 (crcF (l0.take n))) (fun _ v31 => l0.length - (intOf v31).toNat)
      case atStart => exact ⟨0, by omega, rfl, rfl⟩
      case round =>
        obtain ⟨n, hn, rfl, rfl⟩ := hrel
        by_cases hnl : n < l0.length
        · have hbound : (l0.length : Int) ≤ 9223372036854775807 := by have := HR0.out.2.1; omega
          have HS := Lib.hid (crcF_snoc l0 n hnl)
          obtain ⟨ad, e, hx⟩ := Kd.at_int HCr.out n (by omega) (by omega)
          cases e
          rw [Int.toNat_natCast] at hx
          obtain ⟨a1, a2⟩ := bits_and15 (Go.bits .xor .u32 (crcF (l0.take n)) (rd l0 n % 4294967296))
          obtain ⟨b1, b2⟩ := bits_and15 (Go.bits .xor .u32 (Go.bits .xor .u32 (crcF (l0.take n)) (rd l0 n % 4294967296) / 16) (tabv (Go.bits .and .u32 (Go.bits .xor .u32 (crcF (l0.take n)) (rd l0 n % 4294967296)) 15).toNat))
          have hk1 := cell16 HBk.out _ a1 a2
          have hk2 := cell16 HBk.out _ b1 b2
          go_wp2
          go_round
          case rel => exact ⟨n + 1, by omega, by go_num, by rw [HS.out]; rfl⟩
          case measure => simp [intOf]; omega
        · obtain rfl : n = l0.length := by omega
          rw [List.take_length]
          go_wp2
          go_ret
          exact ⟨by rw [← HE.out]; rfl, HBe.out⟩


/-! ### wire_Encode: function 11 -/
/-- The bytes of a number that the closure puts behind the row in variable b. -/
structure PutSt (w0 W : World) (b base : Nat) (v : Value) (xs : List Int) : Prop where
  blk : W.heap[b]? = some (.cells #[v] 29 (0, 0))
  row : Kd.R (Kd.int .u8) 5 W base (fun k => base ≤ k) v xs
  below : Below w0.heap.size w0 W
  hb : w0.heap.size ≤ b
  lt : b < base
  sz : base ≤ W.heap.size
set_option maxHeartbeats 1000000 in
theorem put_any (k b base : Nat) (n : Int) (xs ys : List Int) (v : Value) (w0 w : World) (hS : PutSt w0 w b base v xs) (hy : octets_Uint.f k (IntKind.u64.wrap n) = some ys) (hl : xs.length + ys.length ≤ 140737488355328) :
    Calls Try.prog 22 #[.int .i64 n, .pointer (some ⟨b, 0, none⟩)] w fun e w' => e = .returned (.tuple #[]) ∧ ∃ v', PutSt w0 w' b base v' (xs ++ ys) ∧ KeepBut w w' b v.ownBlock := by
  obtain ⟨Av, cv, ev⟩ := Kd.R_slice hS.row
  subst ev
  have hU : ∀ W, Calls Try.prog 23 #[.int .u64 (IntKind.u64.wrap n)] W _ := fun W => octets_Uint.calls k _ ys W hy
  have HU := Aside0.mk hU
  have HS := Aside0.mk hS
  have c0 : w.cell? ⟨b, 0, none⟩ = some (.slice Av xs.length cv) := (blk_cell hS.blk 0).trans rfl
  have f0 := blk_frozen hS.blk 0
  clear hU hS hy
  go_enter Try.func22, Try.ntmps22
  go_wp2_with fail
  go_region_law (first | (refine Kd.R_append_rows_step (Kd.int .u8) (Rr := (Kd.int .u8).K w1) (w0 := w1) base (by simp [Region.wanted]) (.tmp 3) (.tmp 6) 29 5 (.int .u8 0) 1 rfl Try.underlying29 info5 rfl (by decide) (by omega) (.slice Av xs.length cv) xs ys Ay ys.length cy (fun k => base ≤ k) (fun _ => False) rfl rfl R1.out C1.out (fun _ _ h => h) (fun _ h => h.elim) Z1.out (Below.refl _ _) (Z1.out _ (Nat.le_refl _)) (by omega) ?_; intro v1 w2 hR1 hB1 hg1 hat1; obtain ⟨Ao, co, eo⟩ := Kd.R_slice hR1; subst eo; have R2 := Aside0.mk hR1; have G2 := Aside0.mk hg1; have K2 := Aside0.mk (blk_grown B1.out hg1 (fun e => by have := HS.out.row.1 b e.symm; have := HS.out.lt; omega)); have c2 : w2.cell? ⟨b, 0, none⟩ = some (.slice Av xs.length cv) := (blk_cell K2.out 0).trans rfl; have f2 := blk_frozen K2.out 0; clear hR1 hB1 hg1 hat1) | (go_simp; go_at_call 23; refine (HU.out _).mono ?_; rintro e w1 ⟨vy, rfl, hR, hb⟩; obtain ⟨Ay, cy, ey⟩ := Kd.R_slice hR; subst ey; have N1 := Aside0.mk (below_step (w := w) (by repeat (first | exact Below.refl _ _ | apply below_drew | apply pw_below_drewN)) hb); have C1 := Aside0.mk (Kd.R_reads' hR).2.2; have R1 := Aside0.mk (Kd.R_below HS.out.row N1.out); have Z1 := Aside0.mk (show ∀ k, w1.heap.size ≤ k → base ≤ k from fun k hk => by have := HS.out.sz; have := N1.out.size; omega); have B1 := Aside0.mk (blk_below HS.out.blk N1.out); have c1 : w1.cell? ⟨b, 0, none⟩ = some (.slice Av xs.length cv) := (blk_cell B1.out 0).trans rfl; clear hR hb))
  all_goals
    go_end0
    have e8 : (xs ++ ys).length = xs.length + ys.length := by simp
    have R9 := R2.out
    rw [e8] at R9
    have hbs := HS.out.hb
    have hlt := HS.out.lt
    have hsz := HS.out.sz
    have B2 : Below w0.heap.size w0 w2 := (below_step HS.out.below N1.out).grown G2.out (by have := N1.out.size; have := HS.out.below.size; omega) (fun k hk => by have := HS.out.row.1 k hk; omega)
    refine ⟨rfl, _, ⟨blk_put K2.out 0 _ rfl, Kd.R_far (p := ⟨b, 0, none⟩) R9 (fun k hk => by simp only; omega) _, B2.setCell hbs _, hbs, hlt, by simp only [World.size_setCell]; have := N1.out.size; have := G2.out.size; omega⟩, ?_⟩
    exact KeepBut.set_ ((KeepBut.of_below N1.out b _).trans (KeepBut.of_grown G2.out b) (.inl rfl)) 0 _
theorem C_cells {w : World} {ad : Addr} {ys : List Int} (h : Kd.C (Kd.int .u8) w (some ad) ys.length ys) : ∀ j u, (nums .u8 ys)[j]? = some u → w.cell? (ad.add j) = some u := fun j u hu => by
  have hj : j < ys.length := by have := (List.getElem?_eq_some_iff.1 hu).1; rwa [nums_length] at this
  obtain ⟨ad', e, hc⟩ := (Kd.reads_of_C (d := (0 : Int)) h).2.2 (by omega)
  cases e
  rw [hc j hj, ← hu]
  simp [nums, List.getElem?_eq_getElem hj, List.getD_eq_getElem?_getD]
theorem head_cells {w : World} {g : Nat} (h : w.heap[g]? = some (.cells #[.int .u8 108, .int .u8 120, .int .u8 100, .int .u8 1] 5 (4, 5))) (j : Nat) (u : Value) (hu : (nums .u8 [108, 120, 100, 1])[j]? = some u) : w.cell? ((⟨g, 0, none⟩ : Addr).add j) = some u := by
  rw [add_plain, cell_of_row w g j _ _ _ h, ← hu]
  simp [nums]
theorem own_R {w : World} {B base : Nat} {v : Value} {xs : List Int} {n : Nat} {zs : List Value} (h : w.ownsRow B 5 1 v n zs) (hz : zs = nums .u8 xs) (hn : n = xs.length) (hb : base ≤ B) : Kd.R (Kd.int .u8) 5 w base (fun k => base ≤ k) v xs := by
  subst hz hn
  exact Kd.R_mono (Kd.R_bound (Kd.R_lower (Kd.R_of_own (enc := Value.int .u8) (h1 := fun _ => rfl) (ok := fun _ => True) h (fun _ _ => trivial)) hb)) (fun k hk => hk.2.1)
set_option maxHeartbeats 1000000 in
theorem put_first (k b base g : Nat) (n : Int) (ys : List Int) (w0 w : World) (hbk : w.heap[b]? = some (.cells #[.slice (some ⟨g, 0, none⟩) 4 4] 29 (0, 0))) (hgk : w.heap[g]? = some (.cells #[.int .u8 108, .int .u8 120, .int .u8 100, .int .u8 1] 5 (4, 5))) (hB : Below w0.heap.size w0 w) (hwb : w0.heap.size ≤ b) (hlt : b < base) (hsz : base ≤ w.heap.size)
    (hy : octets_Uint.f k (IntKind.u64.wrap n) = some ys) (hp : 0 < ys.length) (hl : 4 + ys.length ≤ 140737488355328) :
    Calls Try.prog 22 #[.int .i64 n, .pointer (some ⟨b, 0, none⟩)] w fun e w' => e = .returned (.tuple #[]) ∧ ∃ v', PutSt w0 w' b base v' ([108, 120, 100, 1] ++ ys) ∧ KeepBut w w' b none := by
  have hU : ∀ W, Calls Try.prog 23 #[.int .u64 (IntKind.u64.wrap n)] W _ := fun W => octets_Uint.calls k _ ys W hy
  have HU := Aside0.mk hU
  have c0 : w.cell? ⟨b, 0, none⟩ = some (.slice (some ⟨g, 0, none⟩) 4 4) := (blk_cell hbk 0).trans rfl
  have f0 := blk_frozen hbk 0
  have HBK := Aside0.mk hbk
  have HGK := Aside0.mk hgk
  have HB := Aside0.mk hB
  obtain ⟨i5, hi5, hz5, hs5, hb5⟩ := info_parts info5
  have I5 := Aside0.mk (And.intro hi5 (And.intro hz5 (And.intro hs5 hb5)))
  clear hU hy hbk hgk hB hi5 hz5 hs5 hb5
  go_enter Try.func22, Try.ntmps22
  go_wp2_with fail
  go_region_law (first | (refine step_append_grows rfl (.tmp 3) (.tmp 6) 29 rfl 5 i5 (.int .u8 0) 1 1 Try.underlying29 I5.out.1 I5.out.2.1 I5.out.2.2.1 I5.out.2.2.2 rfl (by decide) (some ⟨g, 0, none⟩) 4 4 (nums .u8 [108, 120, 100, 1]) rfl (fun e => by cases e) rfl D1.out ay ys.length cy (nums .u8 ys) rfl (by rw [nums_length, Nat.mul_one]) C1.out (fun u hu => by obtain ⟨x, _, rfl⟩ := List.mem_map.1 hu; rfl) (by omega) (by unfold maxLen; omega) (by omega) ?_; intro v1 w2 ho1 hg1; have R2 := Aside0.mk (own_R (xs := [108, 120, 100, 1] ++ ys) ho1 (by rw [← nums_append]) (by simp; omega) Z1.out); obtain ⟨Ao, co, eo⟩ := Kd.R_slice R2.out; subst eo; have G2 := Aside0.mk hg1; have K2 := Aside0.mk (blk_grown B1.out hg1 (by simp)); have c2 : w2.cell? ⟨b, 0, none⟩ = some (.slice (some ⟨g, 0, none⟩) 4 4) := (blk_cell K2.out 0).trans rfl; have f2 := blk_frozen K2.out 0; clear ho1 hg1) | (go_simp; go_at_call 23; refine (HU.out _).mono ?_; rintro e w1 ⟨vy, rfl, hR, hb⟩; obtain ⟨gy, cy, ey, _⟩ := Kd.R_form hR hp; subst ey; obtain ⟨ay, hay⟩ : ∃ ay : Addr, ay = ⟨gy, 0, none⟩ := ⟨_, rfl⟩; rw [← hay] at hR ⊢; have N1 := Aside0.mk (below_step (w := w) (by repeat (first | exact Below.refl _ _ | apply below_drew | apply pw_below_drewN)) hb); have C1 := Aside0.mk (C_cells (Kd.R_reads' hR).2.2); have D1 : Aside0 (∀ b, some (⟨g, 0, none⟩ : Addr) = some b → ∀ j u, (nums .u8 [108, 120, 100, 1])[j]? = some u → w1.cell? (b.add j) = some u) := ⟨fun b e j u hu => by cases e; exact head_cells (blk_below HGK.out N1.out) j u hu⟩; have Z1 := Aside0.mk (show base ≤ w1.heap.size by have := N1.out.size; omega); have B1 := Aside0.mk (blk_below HBK.out N1.out); have c1 : w1.cell? ⟨b, 0, none⟩ = some (.slice (some ⟨g, 0, none⟩) 4 4) := (blk_cell B1.out 0).trans rfl; clear hR hb hay))
  all_goals
    go_end0
    have e8 : ([108, 120, 100, 1] ++ ys : List Int).length = ys.length + 1 + 1 + 1 + 1 := rfl
    have R9 := R2.out
    rw [e8] at R9
    have B2 : Below w0.heap.size w0 w2 := (below_step HB.out N1.out).grown G2.out (by have := N1.out.size; have := HB.out.size; omega) (fun k hk => by cases hk)
    refine ⟨rfl, _, ⟨blk_put K2.out 0 _ rfl, Kd.R_far (p := ⟨b, 0, none⟩) R9 (fun k hk => by simp only; omega) _, B2.setCell hwb _, hwb, hlt, by simp only [World.size_setCell]; have := N1.out.size; have := G2.out.size; omega⟩, ?_⟩
    exact KeepBut.set_ ((KeepBut.of_below N1.out b _).trans (KeepBut.of_grown G2.out b) (.inl rfl)) 0 _

def uuF (k : Nat) (n : Int) : Option (List Int) := octets_Uint.f k (IntKind.u64.wrap n)
def choB (k : Nat) : List S54 → Option (List Int)
  | [] => some []
  | c :: cs => (uuF k (wrap64 (c.f0 + 1))).bind fun a => (uuF k (wrap64 (c.f1 + 1))).bind fun b => (choB k cs).bind fun r => some (a ++ (b ++ r))
def stpB (k : Nat) (s : S52) : Option (List Int) := (uuF k s.f1).bind fun a => (uuF k (wrap64 (s.f3 + 1))).bind fun b => (uuF k (s.f4.length : Int)).bind fun c => (choB k s.f4).bind fun d => some (s.f0 % 256 :: (a ++ (s.f2 % 256 :: (b ++ (c ++ d)))))
def allB (k : Nat) : List S52 → Option (List Int)
  | [] => some []
  | s :: l => (stpB k s).bind fun a => (allB k l).bind fun b => some (a ++ b)
def litL (n : Int) : List Int := [lit4 n 0, lit4 n 1, lit4 n 2, lit4 n 3]
def endB (n b : List Int) : Option (List Int × Int) := if 0 < n.length ∧ ([108, 120, 100, 1] ++ (n ++ b)).length ≤ 140737488355000 then some (([108, 120, 100, 1] ++ (n ++ b)) ++ litL (crcL ([108, 120, 100, 1] ++ (n ++ b))), 0) else none
def wire_Encode.f (k : Nat) (l0 : List S52) : Option (List Int × Int) := (wire_Check.f k l0).bind fun r => if r.1 = 0 then (uuF k (l0.length : Int)).bind fun n => (allB k l0).bind fun b => endB n b else some ([], r.1)
theorem uuF_mono (k : Nat) (n : Int) : LeO (uuF k n) (uuF (k + 1) n) := octets_Uint.mono _ _
theorem choB_mono (k : Nat) : ∀ l, LeO (choB k l) (choB (k + 1) l)
  | [] => LeO.refl _
  | c :: cs => LeO.bind (uuF_mono _ _) fun _ => LeO.bind (uuF_mono _ _) fun _ => LeO.bind (choB_mono k cs) fun _ => LeO.refl _
theorem stpB_mono (k : Nat) (s : S52) : LeO (stpB k s) (stpB (k + 1) s) := LeO.bind (uuF_mono _ _) fun _ => LeO.bind (uuF_mono _ _) fun _ => LeO.bind (uuF_mono _ _) fun _ => LeO.bind (choB_mono k _) fun _ => LeO.refl _
theorem allB_mono (k : Nat) : ∀ l, LeO (allB k l) (allB (k + 1) l)
  | [] => LeO.refl _
  | s :: l => LeO.bind (stpB_mono _ _) fun _ => LeO.bind (allB_mono k l) fun _ => LeO.refl _
theorem wire_Encode.mono : ∀ a0 k, LeO (wire_Encode.f k a0) (wire_Encode.f (k + 1) a0) := by
  intro a0 k
  refine LeO.bind (wire_Check.mono _ _) fun _ => LeO.ite ?_ ?_
  · exact LeO.bind (uuF_mono _ _) fun _ => LeO.bind (allB_mono _ _) fun _ => LeO.refl _
  · exact LeO.refl _
theorem drop_T52 (l : List S52) (i : Nat) (h : i < l.length) : l.drop i = rd_T52 l (i : Int) :: l.drop (i + 1) := by
  rw [List.drop_eq_getElem_cons h]
  simp [rd_T52, List.getD_eq_getElem?_getD, List.getElem?_eq_getElem h]
theorem drop_T54 (l : List S54) (i : Nat) (h : i < l.length) : l.drop i = rd_T54 l (i : Int) :: l.drop (i + 1) := by
  rw [List.drop_eq_getElem_cons h]
  simp [rd_T54, List.getD_eq_getElem?_getD, List.getElem?_eq_getElem h]
theorem PutSt.step {w0 W W1 : World} {b base : Nat} {v : Value} {xs : List Int} (h : PutSt w0 W b base v xs) (hb : Below W.heap.size W W1) : PutSt w0 W1 b base v xs :=
  ⟨blk_below h.blk hb, Kd.R_below h.row hb, below_step h.below hb, h.hb, h.lt, Nat.le_trans h.sz hb.size⟩
/-- Behind an append to the row and the store of what it gives. -/
theorem PutSt.app {w0 W W1 : World} {b base : Nat} {v v1 : Value} {xs ys : List Int} (h : PutSt w0 W b base v xs) (hR : Kd.R (Kd.int .u8) 5 W1 base (fun k => base ≤ k) v1 ys) (hg : W.grownBy W1 v.ownBlock) : PutSt w0 (W1.setCell ⟨b, 0, none⟩ v1) b base v1 ys := by
  have hb := h.hb
  have hlt := h.lt
  have hsz := h.sz
  have hr : ∀ k, v.ownBlock = some k → base ≤ k := h.row.1
  have hk := blk_grown h.blk hg (fun e => by have := hr b e.symm; omega)
  refine ⟨blk_put hk 0 _ rfl, Kd.R_far (p := ⟨b, 0, none⟩) hR (fun k hk => by simp only; omega) _, (h.below.grown hg h.below.size (fun k hk => by have := hr k hk; omega)).setCell hb _, hb, hlt, ?_⟩
  simp only [World.size_setCell]
  have := hg.size
  omega
theorem crcL_fits' (l : List Int) : 0 ≤ crcL l ∧ crcL l < 4294967296 := by
  unfold crcL
  simp only [Go.bits]
  rw [IntKind.wrap_u32]
  omega
theorem PutSt.keep_blk {w0 W W1 : World} {b base g t : Nat} {v : Value} {xs : List Int} {cs : Array Value} (h : PutSt w0 W b base v xs) (hK : KeepBut W W1 b v.ownBlock) (hb : W.heap[g]? = some (.cells cs t (0, 0))) (ht : 5 ≠ t) (hne : g ≠ b) : W1.heap[g]? = some (.cells cs t (0, 0)) :=
  hK.blk hb hne (Kd.R_ne h.row hb ht)
set_option maxHeartbeats 4000000 in
theorem wire_Encode.calls (k : Nat) (A0 : Option Addr) (c0 : Nat) (l0 : List S52) (r1 : List Int) (r2 : Int) (w : World) (hr0 : Kd.C k52 w A0 l0.length l0) (hc0 : l0.length ≤ c0) (h : wire_Encode.f k l0 = some (r1, r2)) :
    Calls Try.prog 11 #[.slice A0 l0.length c0] w fun e w' => ∃ v0_ : Value, e = .returned (.tuple #[v0_, .int .i64 r2]) ∧ Kd.R (Kd.int .u8) 5 w' w.heap.size (fun _ => True) v0_ r1 ∧ Below w.heap.size w w' := by
  unfold wire_Encode.f at h
  obtain ⟨⟨e0, p0⟩, hck, h⟩ := Option.bind_eq_some_iff.1 h
  have HR0 := Aside0.mk hr0
  have HC0 := Aside0.mk hc0
  have HCK := Lib.hid hck
  have hmax : (l0.length : Int) ≤ 9223372036854775807 := by have := hr0.2.1; omega
  clear hck hr0 hc0
  simp only at h
  by_cases he : e0 = 0
  · rw [if_pos he] at h
    subst he
    obtain ⟨n, hn, h⟩ := Option.bind_eq_some_iff.1 h
    obtain ⟨bd, hbd, h⟩ := Option.bind_eq_some_iff.1 h
    unfold endB at h
    by_cases hg : 0 < n.length ∧ ([108, 120, 100, 1] ++ (n ++ bd)).length ≤ 140737488355000
    · rw [if_pos hg] at h
      simp only [Option.some.injEq, Prod.mk.injEq] at h
      obtain ⟨hr1, rfl⟩ := h
      obtain ⟨hnp, htl⟩ := hg
      have HN := Lib.hid hn
      have HBD := Lib.hid hbd
      have HE := Lib.hid hr1
      have HNP := Aside0.mk hnp
      have HTL := Aside0.mk htl
      clear hn hbd hr1 hnp htl
      have kc := fun (w : World) (C : Array Value) (n c : Nat) => Lib.run_convert_bytes_const (P := Try.prog) w 29 5 C n c Try.underlying29 Try.underlying5
      have hmf : ∀ (fn : Fn) (first cap : Array Value) (w : World), (Instr.makeFunc fn first cap).run Try.prog w = .ok (.func fn first cap) w := fun _ _ _ _ => rfl
      go_enter Try.func11, Try.ntmps11
      go_wp2_with fail
      refine (wire_Check.calls k _ _ l0 0 p0 _ HR0.out HC0.out HCK.out).mono ?_
      rintro e w1 ⟨rfl, hd⟩
      go_wp2_with fail
      have hlen : ([108, 120, 100, 1] ++ (n ++ bd) : List Int).length = 4 + (n.length + bd.length) := by simp; omega
      refine (put_first k (w1.heap.size + 1) (w1.heap.size + 2) w1.heap.size (l0.length : Int) n w _ (by have := blk_new (w1.alloc (.cells #[.int .u8 108, .int .u8 120, .int .u8 100, .int .u8 1] 5 (4, 5))) (.cells #[.slice (some ⟨w1.heap.size, 0, none⟩) 4 4] 29 (0, 0)); simpa using this) (blk_alloc (blk_new _ _) _) (below_alloc (below_alloc hd _) _) (by have := hd.size; omega) (by omega) (by simp) HN.out HNP.out (by have := HTL.out; omega)).mono ?_
      rintro e w2 ⟨rfl, v2, hP, hK⟩
      obtain ⟨tot, htot⟩ : ∃ tot, tot = [108, 120, 100, 1] ++ (n ++ bd) := ⟨_, rfl⟩
      have htl := HTL.out
      rw [← htot] at htl
      have HT := Lib.hid htot
      have P2 := Aside0.mk hP
      obtain ⟨B, hBb⟩ : ∃ B, B = w1.heap.size + 1 := ⟨_, rfl⟩
      rw [← hBb] at P2 ⊢
      have hbase : w1.heap.size + 2 = B + 1 := by omega
      rw [hbase] at P2
      have HTT := Aside0.mk (show ([108, 120, 100, 1] ++ n) ++ bd = tot by rw [htot]; simp)
      clear hP hK htot hlen hBb hbase
      go_wp2_with fail
      go_loopw [30] (fun v30 wr => ∃ (i : Nat) (v : Value) (xs rest : List Int), i ≤ l0.length ∧ v30 = .int .i64 i ∧ Aside0 (PutSt w wr B (B + 1) v xs) ∧ Aside0 (allB k (l0.drop i) = some rest) ∧ Aside0 (xs ++ rest = tot)) (fun v30 _ => l0.length - (intOf v30).toNat)
      case atStart => exact ⟨0, v2, [108, 120, 100, 1] ++ n, bd, by omega, rfl, P2, ⟨HBD.out⟩, HTT⟩
      case round =>
        clear P2 HTT
        obtain ⟨i, v, xs, rest, hi, rfl, HP, HA, HTT⟩ := hrel
        by_cases hlt : i < l0.length
        · have hall := HA.out
          rw [drop_T52 l0 i hlt] at hall
          obtain ⟨sb, hsb, hall⟩ := Option.bind_eq_some_iff.1 hall
          obtain ⟨rest2, hrest2, hall⟩ := Option.bind_eq_some_iff.1 hall
          obtain ⟨ya, hya, hsb⟩ := Option.bind_eq_some_iff.1 hsb
          obtain ⟨yb, hyb, hsb⟩ := Option.bind_eq_some_iff.1 hsb
          obtain ⟨yc, hyc, hsb⟩ := Option.bind_eq_some_iff.1 hsb
          obtain ⟨yd, hyd, hsb⟩ := Option.bind_eq_some_iff.1 hsb
          obtain ⟨ad, A4, c4, e4, x0, x1, x2, x3, x4, hl4, hi4⟩ := at_T52 HR0.out i (by omega) (by omega)
          subst e4
          rw [Int.toNat_natCast] at x0 x1 x2 x3 x4
          replace x0 := pw_cell_below HP.out.below x0
          replace x1 := pw_cell_below HP.out.below x1
          replace x2 := pw_cell_below HP.out.below x2
          replace x3 := pw_cell_below HP.out.below x3
          replace x4 := pw_cell_below HP.out.below x4
          obtain rfl := Option.some.inj hsb
          obtain rfl := Option.some.inj hall
          have htt := HTT.out
          have HYA := Lib.hid hya
          have HYB := Lib.hid hyb
          have HYC := Lib.hid hyc
          have HYD := Lib.hid hyd
          have HL4 := Aside0.mk hl4
          have HI4 := Aside0.mk hi4
          have HRS := Lib.hid hrest2
          obtain ⟨s, hs⟩ : ∃ s, s = rd_T52 l0 (i : Int) := ⟨_, rfl⟩
          rw [← hs] at x0 x1 x2 x3 x4 HYA HYB HYC HYD HL4 HI4 htt
          have HTT2 := Lib.hid htt
          have p0 : (0 ≤ (i : Int)) = True := eq_true (by omega)
          have p1 : ((i : Int) < (l0.length : Int)) = True := eq_true (by omega)
          have hm4 : (s.f4.length : Int) ≤ 9223372036854775807 := by have := HI4.out.2.1; omega
          have P0 := Aside0.mk (HP.out.step (below_alloc (Below.refl _ _) (.cells #[.int .i64 s.f0, .int .i64 s.f1, .int .i64 s.f2, .int .i64 s.f3, .slice A4 s.f4.length c4] 52 (0, 0))))
          have BS0 := Aside0.mk (blk_new wr (.cells #[.int .i64 s.f0, .int .i64 s.f1, .int .i64 s.f2, .int .i64 s.f3, .slice A4 s.f4.length c4] 52 (0, 0)))
          have NB := Aside0.mk (show B < wr.heap.size from blk_lt HP.out.blk)
          have nb1 : ¬ wr.heap.size = B := by have := NB.out; omega
          obtain ⟨A0_, c0_, ev⟩ := Kd.R_slice HP.out.row
          subst ev
          have y0 : (wr.alloc (.cells #[.int .i64 s.f0, .int .i64 s.f1, .int .i64 s.f2, .int .i64 s.f3, .slice A4 s.f4.length c4] 52)).cell? ⟨B, 0, none⟩ = some (.slice A0_ xs.length c0_) := (blk_cell P0.out.blk 0).trans rfl
          have z0 : (wr.alloc (.cells #[.int .i64 s.f0, .int .i64 s.f1, .int .i64 s.f2, .int .i64 s.f3, .slice A4 s.f4.length c4] 52)).frozen? ⟨B, 0, none⟩ = false := blk_frozen P0.out.blk 0
          have TT0 := Lib.hid (show xs ++ ([s.f0 % 256] ++ (ya ++ ([s.f2 % 256] ++ (yb ++ (yc ++ (yd ++ rest2)))))) = tot by rw [← htt]; simp)
          have hlen : xs.length + (ya.length + (yb.length + (yc.length + (yd.length + rest2.length)))) + 2 ≤ 140737488355000 := by
            have := congrArg List.length TT0.out
            simp only [List.length_append, List.length_cons, List.length_nil] at this
            omega
          have HLN := Aside0.mk hlen
          clear hya hyb hyc hyd hl4 hi4 hrest2 hs htt HTT HA hlen hsb hall
          go_wp2_with ((with_reducible refine gate_builtin (b := .append) (xs := #[.tmp 34, .tmp 38]) rfl ?_); at_builtin; refine Kd.R_append (Kd.int .u8) (w0 := wr.alloc (.cells #[.int .i64 s.f0, .int .i64 s.f1, .int .i64 s.f2, .int .i64 s.f3, .slice A4 s.f4.length c4] 52 (0, 0))) (B + 1) rfl (.tmp 34) (.tmp 38) 29 5 (.int .u8 0) 1 rfl Try.underlying29 info5 rfl (by decide) (by omega) (.slice A0_ xs.length c0_) xs (s.f0 % 256) [.int .u8 (s.f0 % 256)] (fun k => B + 1 ≤ k) (fun _ => False) rfl ?aX ?aP (fun _ hk => hk.elim) ?aF ?aO ?aB ?aS ?aL ?_; (case aX => go_loud ((show Value.slice (some ⟨wr.heap.size + 1, 0, none⟩) 1 1 = _; simp only [World.size_alloc, World.size_setCell]))); (case aP => exact rfl); (case aF => exact fun k hk => Nat.le_trans P0.out.sz hk); (case aO => exact P0.out.row); (case aB => exact Below.refl _ _); (case aS => exact P0.out.sz); (case aL => go_loud (have := HLN.out;  omega)); intro v1 wa1 hR1 hB1 hg1 hat1; obtain ⟨A1_, c1_, eo⟩ := Kd.R_slice hR1; subst eo; obtain ⟨z1, hz⟩ : ∃ z, xs ++ [s.f0 % 256] = z := ⟨_, rfl⟩; rw [hz] at hR1 ⊢; have Z1 := Lib.hid hz; have P1 := Aside0.mk (P0.out.app hR1 hg1); have BS1 := Aside0.mk (blk_far (blk_grown BS0.out hg1 (Kd.R_ne P0.out.row BS0.out (by decide))) (p := ⟨B, 0, none⟩) (by have := NB.out; simp only; omega) (.slice A1_ z1.length c1_)); have cb := blk_grown P0.out.blk hg1 (fun e => by have := P0.out.row.1 B e.symm; omega); have cc1 : wa1.cell? ⟨B, 0, none⟩ = some (.slice A0_ xs.length c0_) := (blk_cell cb 0).trans rfl; have ff1 := blk_frozen cb 0; clear hR1 hB1 hg1 hat1 cb hz; have g1_0 : (wa1.setCell ⟨B, 0, none⟩ (.slice A1_ z1.length c1_)).cell? ⟨wr.heap.size, 0, none⟩ = some (.int .i64 s.f0) := (blk_cell BS1.out 0).trans rfl; have g1_1 : (wa1.setCell ⟨B, 0, none⟩ (.slice A1_ z1.length c1_)).cell? ⟨wr.heap.size, 1, none⟩ = some (.int .i64 s.f1) := (blk_cell BS1.out 1).trans rfl; have g1_2 : (wa1.setCell ⟨B, 0, none⟩ (.slice A1_ z1.length c1_)).cell? ⟨wr.heap.size, 2, none⟩ = some (.int .i64 s.f2) := (blk_cell BS1.out 2).trans rfl; have g1_3 : (wa1.setCell ⟨B, 0, none⟩ (.slice A1_ z1.length c1_)).cell? ⟨wr.heap.size, 3, none⟩ = some (.int .i64 s.f3) := (blk_cell BS1.out 3).trans rfl; have g1_4 : (wa1.setCell ⟨B, 0, none⟩ (.slice A1_ z1.length c1_)).cell? ⟨wr.heap.size, 4, none⟩ = some (.slice A4 s.f4.length c4) := (blk_cell BS1.out 4).trans rfl)
          have L1 := Aside0.mk (show z1.length = xs.length + 1 by rw [← Z1.out]; simp)
          refine (put_any k B (B + 1) (s.f1) z1 ya _ w _ P1.out HYA.out (by have := HLN.out; have := L1.out;  omega)).mono ?_
          rintro e wa2 ⟨rfl, vv, hP, hK⟩
          obtain ⟨A2_, c2_, ev⟩ := Kd.R_slice hP.row
          subst ev
          obtain ⟨z2, hz⟩ : ∃ z, z1 ++ ya = z := ⟨_, rfl⟩
          rw [hz] at hP
          have Z2 := Lib.hid hz
          have L2 := Aside0.mk (show z2.length = z1.length + ya.length by rw [← hz]; simp)
          have P2 := Aside0.mk hP
          have BS2 := Aside0.mk (P1.out.keep_blk hK BS1.out (by decide) (by have := NB.out; omega))
          have cc2 : wa2.cell? ⟨B, 0, none⟩ = some (.slice A2_ z2.length c2_) := (blk_cell P2.out.blk 0).trans rfl
          have ff2 := blk_frozen P2.out.blk 0
          have g2_0 : wa2.cell? ⟨wr.heap.size, 0, none⟩ = some (.int .i64 s.f0) := (blk_cell BS2.out 0).trans rfl
          have g2_1 : wa2.cell? ⟨wr.heap.size, 1, none⟩ = some (.int .i64 s.f1) := (blk_cell BS2.out 1).trans rfl
          have g2_2 : wa2.cell? ⟨wr.heap.size, 2, none⟩ = some (.int .i64 s.f2) := (blk_cell BS2.out 2).trans rfl
          have g2_3 : wa2.cell? ⟨wr.heap.size, 3, none⟩ = some (.int .i64 s.f3) := (blk_cell BS2.out 3).trans rfl
          have g2_4 : wa2.cell? ⟨wr.heap.size, 4, none⟩ = some (.slice A4 s.f4.length c4) := (blk_cell BS2.out 4).trans rfl
          clear hP hK hz
          go_wp2_with ((with_reducible refine gate_builtin (b := .append) (xs := #[.tmp 44, .tmp 48]) rfl ?_); at_builtin; refine Kd.R_append (Kd.int .u8) (w0 := wa2) (B + 1) rfl (.tmp 44) (.tmp 48) 29 5 (.int .u8 0) 1 rfl Try.underlying29 info5 rfl (by decide) (by omega) (.slice A2_ z2.length c2_) z2 (s.f2 % 256) [.int .u8 (s.f2 % 256)] (fun k => B + 1 ≤ k) (fun _ => False) rfl ?aX ?aP (fun _ hk => hk.elim) ?aF ?aO ?aB ?aS ?aL ?_; (case aX => go_loud ((show Value.slice (some ⟨wa2.heap.size, 0, none⟩) 1 1 = _; simp only [World.size_alloc, World.size_setCell]))); (case aP => exact rfl); (case aF => exact fun k hk => Nat.le_trans P2.out.sz hk); (case aO => exact P2.out.row); (case aB => exact Below.refl _ _); (case aS => exact P2.out.sz); (case aL => go_loud (have := HLN.out; have := L1.out; have := L2.out;  omega)); intro v1 wa3 hR1 hB1 hg1 hat1; obtain ⟨A3_, c3_, eo⟩ := Kd.R_slice hR1; subst eo; obtain ⟨z3, hz⟩ : ∃ z, z2 ++ [s.f2 % 256] = z := ⟨_, rfl⟩; rw [hz] at hR1 ⊢; have Z3 := Lib.hid hz; have P3 := Aside0.mk (P2.out.app hR1 hg1); have BS3 := Aside0.mk (blk_far (blk_grown BS2.out hg1 (Kd.R_ne P2.out.row BS2.out (by decide))) (p := ⟨B, 0, none⟩) (by have := NB.out; simp only; omega) (.slice A3_ z3.length c3_)); have cb := blk_grown P2.out.blk hg1 (fun e => by have := P2.out.row.1 B e.symm; omega); have cc3 : wa3.cell? ⟨B, 0, none⟩ = some (.slice A2_ z2.length c2_) := (blk_cell cb 0).trans rfl; have ff3 := blk_frozen cb 0; clear hR1 hB1 hg1 hat1 cb hz; have g3_0 : (wa3.setCell ⟨B, 0, none⟩ (.slice A3_ z3.length c3_)).cell? ⟨wr.heap.size, 0, none⟩ = some (.int .i64 s.f0) := (blk_cell BS3.out 0).trans rfl; have g3_1 : (wa3.setCell ⟨B, 0, none⟩ (.slice A3_ z3.length c3_)).cell? ⟨wr.heap.size, 1, none⟩ = some (.int .i64 s.f1) := (blk_cell BS3.out 1).trans rfl; have g3_2 : (wa3.setCell ⟨B, 0, none⟩ (.slice A3_ z3.length c3_)).cell? ⟨wr.heap.size, 2, none⟩ = some (.int .i64 s.f2) := (blk_cell BS3.out 2).trans rfl; have g3_3 : (wa3.setCell ⟨B, 0, none⟩ (.slice A3_ z3.length c3_)).cell? ⟨wr.heap.size, 3, none⟩ = some (.int .i64 s.f3) := (blk_cell BS3.out 3).trans rfl; have g3_4 : (wa3.setCell ⟨B, 0, none⟩ (.slice A3_ z3.length c3_)).cell? ⟨wr.heap.size, 4, none⟩ = some (.slice A4 s.f4.length c4) := (blk_cell BS3.out 4).trans rfl)
          have L3 := Aside0.mk (show z3.length = z2.length + 1 by rw [← Z3.out]; simp)
          refine (put_any k B (B + 1) (wrap64 (s.f3 + 1)) z3 yb _ w _ P3.out HYB.out (by have := HLN.out; have := L1.out; have := L2.out; have := L3.out;  omega)).mono ?_
          rintro e wa4 ⟨rfl, vv, hP, hK⟩
          obtain ⟨A4_, c4_, ev⟩ := Kd.R_slice hP.row
          subst ev
          obtain ⟨z4, hz⟩ : ∃ z, z3 ++ yb = z := ⟨_, rfl⟩
          rw [hz] at hP
          have Z4 := Lib.hid hz
          have L4 := Aside0.mk (show z4.length = z3.length + yb.length by rw [← hz]; simp)
          have P4 := Aside0.mk hP
          have BS4 := Aside0.mk (P3.out.keep_blk hK BS3.out (by decide) (by have := NB.out; omega))
          have cc4 : wa4.cell? ⟨B, 0, none⟩ = some (.slice A4_ z4.length c4_) := (blk_cell P4.out.blk 0).trans rfl
          have ff4 := blk_frozen P4.out.blk 0
          have g4_0 : wa4.cell? ⟨wr.heap.size, 0, none⟩ = some (.int .i64 s.f0) := (blk_cell BS4.out 0).trans rfl
          have g4_1 : wa4.cell? ⟨wr.heap.size, 1, none⟩ = some (.int .i64 s.f1) := (blk_cell BS4.out 1).trans rfl
          have g4_2 : wa4.cell? ⟨wr.heap.size, 2, none⟩ = some (.int .i64 s.f2) := (blk_cell BS4.out 2).trans rfl
          have g4_3 : wa4.cell? ⟨wr.heap.size, 3, none⟩ = some (.int .i64 s.f3) := (blk_cell BS4.out 3).trans rfl
          have g4_4 : wa4.cell? ⟨wr.heap.size, 4, none⟩ = some (.slice A4 s.f4.length c4) := (blk_cell BS4.out 4).trans rfl
          clear hP hK hz
          go_wp2_with fail
          refine (put_any k B (B + 1) ((s.f4.length : Int)) z4 yc _ w _ P4.out HYC.out (by have := HLN.out; have := L1.out; have := L2.out; have := L3.out; have := L4.out;  omega)).mono ?_
          rintro e wa5 ⟨rfl, vv, hP, hK⟩
          obtain ⟨A5_, c5_, ev⟩ := Kd.R_slice hP.row
          subst ev
          obtain ⟨z5, hz⟩ : ∃ z, z4 ++ yc = z := ⟨_, rfl⟩
          rw [hz] at hP
          have Z5 := Lib.hid hz
          have L5 := Aside0.mk (show z5.length = z4.length + yc.length by rw [← hz]; simp)
          have P5 := Aside0.mk hP
          have BS5 := Aside0.mk (P4.out.keep_blk hK BS4.out (by decide) (by have := NB.out; omega))
          have cc5 : wa5.cell? ⟨B, 0, none⟩ = some (.slice A5_ z5.length c5_) := (blk_cell P5.out.blk 0).trans rfl
          have ff5 := blk_frozen P5.out.blk 0
          have g5_0 : wa5.cell? ⟨wr.heap.size, 0, none⟩ = some (.int .i64 s.f0) := (blk_cell BS5.out 0).trans rfl
          have g5_1 : wa5.cell? ⟨wr.heap.size, 1, none⟩ = some (.int .i64 s.f1) := (blk_cell BS5.out 1).trans rfl
          have g5_2 : wa5.cell? ⟨wr.heap.size, 2, none⟩ = some (.int .i64 s.f2) := (blk_cell BS5.out 2).trans rfl
          have g5_3 : wa5.cell? ⟨wr.heap.size, 3, none⟩ = some (.int .i64 s.f3) := (blk_cell BS5.out 3).trans rfl
          have g5_4 : wa5.cell? ⟨wr.heap.size, 4, none⟩ = some (.slice A4 s.f4.length c4) := (blk_cell BS5.out 4).trans rfl
          clear hP hK hz
          go_wp2_with fail
          have TT5 := Lib.hid (show z5 ++ (yd ++ rest2) = tot by rw [← TT0.out, ← Z5.out, ← Z4.out, ← Z3.out, ← Z2.out, ← Z1.out]; simp only [List.append_assoc])
          clear HLN L1 L2 L3 L4 L5 Z1 Z2 Z3 Z4 Z5 TT0 x0 x1 x2 x3 x4 y0 z0 cc1 ff1 cc3 ff3 cc2 ff2 cc4 ff4 P0 P1 P2 P3 P4 BS0 BS1 BS2 BS3 BS4 HYA HYB HYC g1_0 g1_1 g1_2 g1_3 g1_4 g2_0 g2_1 g2_2 g2_3 g2_4 g3_0 g3_1 g3_2 g3_3 g3_4 g4_0 g4_1 g4_2 g4_3 g4_4 g5_0 g5_1 g5_2 g5_3 g5_4
          obtain ⟨wy, rfl⟩ : ∃ wy : World, wy = wr := ⟨_, rfl⟩
          go_loopw [63] (fun v63 wr => ∃ (j : Nat) (v : Value) (z rest4 : List Int), j ≤ s.f4.length ∧ v63 = .int .i64 j ∧ Aside0 (PutSt w wr B (B + 1) v z) ∧ Aside0 (choB k (s.f4.drop j) = some rest4) ∧ Aside0 (z ++ (rest4 ++ rest2) = tot)) (fun v63 _ => s.f4.length - (intOf v63).toNat)
          case atStart => exact ⟨0, _, z5, yd, by omega, rfl, P5, ⟨HYD.out⟩, ⟨TT5.out⟩⟩
          case round =>
            clear P5 TT5 BS5 cc5 ff5
            obtain ⟨j, v, z, rest4, hj, rfl, HP2, HA, HTT⟩ := hrel
            by_cases hlt2 : j < s.f4.length
            · have hall := HA.out
              rw [drop_T54 s.f4 j hlt2] at hall
              obtain ⟨ye, hye, hall⟩ := Option.bind_eq_some_iff.1 hall
              obtain ⟨yf, hyf, hall⟩ := Option.bind_eq_some_iff.1 hall
              obtain ⟨rest5, hrest5, hall⟩ := Option.bind_eq_some_iff.1 hall
              obtain rfl := Option.some.inj hall
              obtain ⟨ad2, e5, q0, q1⟩ := at_T54 HI4.out j (by omega) (by omega)
              subst e5
              rw [Int.toNat_natCast] at q0 q1
              replace q0 := pw_cell_below HP2.out.below q0
              replace q1 := pw_cell_below HP2.out.below q1
              have HYE := Lib.hid hye
              have HYF := Lib.hid hyf
              have HRS5 := Lib.hid hrest5
              have htt := HTT.out
              obtain ⟨c, hc⟩ : ∃ c, c = rd_T54 s.f4 (j : Int) := ⟨_, rfl⟩
              rw [← hc] at q0 q1 HYE HYF
              have TT6 := Lib.hid (show z ++ (ye ++ (yf ++ (rest5 ++ rest2))) = tot by rw [← htt]; simp)
              have hlen : z.length + (ye.length + (yf.length + (rest5.length + rest2.length))) ≤ 140737488355000 := by
                have := congrArg List.length TT6.out
                simp only [List.length_append] at this
                omega
              have HLN := Aside0.mk hlen
              have p2 : (0 ≤ (j : Int)) = True := eq_true (by omega)
              have p3 : ((j : Int) < (s.f4.length : Int)) = True := eq_true (by omega)
              have NC := Aside0.mk (show B < wr.heap.size from blk_lt HP2.out.blk)
              have P6 := Aside0.mk (HP2.out.step (below_alloc (Below.refl _ _) (.cells #[.int .i64 c.f0, .int .i64 c.f1] 54 (0, 0))))
              have BS6 := Aside0.mk (blk_new wr (.cells #[.int .i64 c.f0, .int .i64 c.f1] 54 (0, 0)))
              clear hye hyf hrest5 hall htt hc hlen HTT HA
              go_wp2_with fail
              refine (put_any k B (B + 1) (wrap64 (c.f0 + 1)) z ye _ w _ P6.out HYE.out (by have := HLN.out; omega)).mono ?_
              rintro e wa7 ⟨rfl, vv, hP, hK⟩
              have P7 := Aside0.mk hP
              have BS7 := Aside0.mk (P6.out.keep_blk hK BS6.out (by decide) (by have := NC.out; omega))
              have m0 : wa7.cell? ⟨wr.heap.size, 0, none⟩ = some (.int .i64 c.f0) := (blk_cell BS7.out 0).trans rfl
              have m1 : wa7.cell? ⟨wr.heap.size, 1, none⟩ = some (.int .i64 c.f1) := (blk_cell BS7.out 1).trans rfl
              clear hP hK
              go_wp2_with fail
              refine (put_any k B (B + 1) (wrap64 (c.f1 + 1)) (z ++ ye) yf _ w _ P7.out HYF.out (by have := HLN.out; simp only [List.length_append]; omega)).mono ?_
              rintro e wa8 ⟨rfl, vv2, hP, hK⟩
              have P8 := Aside0.mk hP
              clear hP hK
              go_wp2
              refine ⟨⟨j + 1, vv2, (z ++ ye) ++ yf, rest5, by omega, rfl, P8, ⟨HRS5.out⟩, ⟨by rw [← TT6.out]; simp only [List.append_assoc]⟩⟩, by simp [intOf]; omega⟩
            · obtain rfl : j = s.f4.length := by omega
              have hr4 : rest4 = [] := by have := HA.out; rw [List.drop_length] at this; exact (Option.some.inj this).symm
              subst hr4
              go_wp2
              refine ⟨⟨i + 1, v, z, rest2, by omega, rfl, HP2, ⟨HRS.out⟩, ⟨HTT.out⟩⟩, by simp [intOf]; omega⟩
        · obtain rfl : i = l0.length := by omega
          have hr4 : rest = [] := by have := HA.out; rw [List.drop_length] at this; exact (Option.some.inj this).symm
          subst hr4
          have hxt : xs = tot := by have := HTT.out; rwa [List.append_nil] at this
          subst hxt
          obtain ⟨Av, cv, ev⟩ := Kd.R_slice HP.out.row
          subst ev
          have y0 : wr.cell? ⟨B, 0, none⟩ = some (.slice Av xs.length cv) := (blk_cell HP.out.blk 0).trans rfl
          have hRR := Kd.R_reads' HP.out.row
          obtain ⟨cr, ecr⟩ : ∃ cr, crcL xs = cr := ⟨_, rfl⟩
          have ECR := Lib.hid ecr
          have CS := Aside0.mk (octets_Sum.calls Av cv xs cr wr hRR.2.2 hRR.2.1 (by unfold octets_Sum.f; rw [ecr]))
          have hcr := crcL_fits' xs
          rw [ecr] at hcr
          have CL := Aside0.mk (show ∀ W, Calls Try.prog 24 #[.int .u32 cr] W (fun e w' => e = .returned (.agg #[.int .u8 (lit4 cr 0), .int .u8 (lit4 cr 1), .int .u8 (lit4 cr 2), .int .u8 (lit4 cr 3)]) ∧ Below W.heap.size W w') from fun W => little_any cr W hcr.1 hcr.2)
          clear hRR ecr hcr HTT HA
          go_wp2_with fail
          refine (show Calls Try.prog 25 #[.slice Av xs.length cv] wr _ from CS.out).mono ?_
          rintro e wa ⟨rfl, hb⟩
          have PA := Aside0.mk (HP.out.step hb)
          clear hb
          go_wp2_with fail
          refine (CL.out _).mono ?_
          rintro e wb ⟨rfl, hb⟩
          have PB := Aside0.mk ((PA.out.step hb).step (below_alloc (Below.refl _ _) (.cells #[.int .u8 (lit4 cr 0), .int .u8 (lit4 cr 1), .int .u8 (lit4 cr 2), .int .u8 (lit4 cr 3)] 60 (0, 0))))
          have BL := Aside0.mk (blk_new wb (.cells #[.int .u8 (lit4 cr 0), .int .u8 (lit4 cr 1), .int .u8 (lit4 cr 2), .int .u8 (lit4 cr 3)] 60 (0, 0)))
          clear hb
          have RB := Aside0.mk (Kd.C_blk (k := .u8) (l := litL cr) BL.out rfl rfl (by show 4 ≤ 9223372036854775807; decide))
          have c0' : (wb.alloc (.cells #[.int .u8 (lit4 cr 0), .int .u8 (lit4 cr 1), .int .u8 (lit4 cr 2), .int .u8 (lit4 cr 3)] 60)).cell? ⟨B, 0, none⟩ = some (.slice Av xs.length cv) := (blk_cell PB.out.blk 0).trans rfl
          have hz2 : 4 + xs.length ≤ 140737488355328 := by omega
          go_wp2_with fail
          go_region_law (first | (go_loud (refine Kd.R_append_rows_step (Kd.int .u8) (Rr := (Kd.int .u8).K (wb.alloc (.cells #[.int .u8 (lit4 cr 0), .int .u8 (lit4 cr 1), .int .u8 (lit4 cr 2), .int .u8 (lit4 cr 3)] 60))) (w0 := wb.alloc (.cells #[.int .u8 (lit4 cr 0), .int .u8 (lit4 cr 1), .int .u8 (lit4 cr 2), .int .u8 (lit4 cr 3)] 60)) (B + 1) (by simp [Region.wanted]) (.tmp 82) (.tmp 83) 29 5 (.int .u8 0) 1 rfl Try.underlying29 info5 rfl (by decide) (by omega) (.slice Av xs.length cv) xs (litL cr) (some ⟨wb.heap.size, 0, none⟩) 4 4 (fun k => B + 1 ≤ k) (fun _ => False) rfl rfl PB.out.row RB.out (fun _ _ h => h) (fun _ h => h.elim) (fun k hk => Nat.le_trans PB.out.sz hk) (by repeat (first | exact Below.refl _ _ | apply below_drew1 | apply pw_below_drewN)) PB.out.sz (by omega) ?_); intro v1 w2 hR1 hB1 hg1 hat1; obtain ⟨Ao, co, eo⟩ := Kd.R_slice hR1; subst eo; have R2 := Aside0.mk hR1; have G2 := Aside0.mk hg1; clear hR1 hB1 hg1 hat1))
          have R3 := Aside0.mk (show Kd.R (Kd.int .u8) 5 w2 w.heap.size (fun _ => True) (.slice Ao (xs ++ litL cr).length co) (xs ++ litL cr) from Kd.R_mono (Kd.R_lower R2.out (by have := PB.out.hb; omega)) (fun _ _ => trivial))
          have PD := PB.out.step (below_drew (Below.refl _ _))
          have B3 := Aside0.mk (PD.below.grown G2.out PD.below.size (fun k hk => by have := PB.out.row.1 k hk; have := PB.out.hb; omega))
          have e8 : (xs ++ litL cr).length = xs.length + 4 := by simp [litL]
          rw [e8] at R3
          go_wp2
          go_ret2
          exact ⟨_, rfl, by rw [← HE.out, ← HT.out, ECR.out]; exact R3.out, B3.out⟩
    · rw [if_neg hg] at h
      cases h
  · rw [if_neg he] at h
    simp only [Option.some.injEq, Prod.mk.injEq] at h
    obtain ⟨rfl, rfl⟩ := h
    have t0 : (e0 != 0) = true := by simpa using he
    clear he
    go_enter Try.func11, Try.ntmps11
    go_wp2_with fail
    refine (wire_Check.calls k _ _ l0 e0 p0 _ HR0.out HC0.out HCK.out).mono ?_
    rintro e w1 ⟨rfl, hd⟩
    go_wp2
    go_ret2
    exact ⟨_, rfl, Kd.R_nil _ _ _ _ _, hd⟩


/-! ### lexpriorref01_Uint: function 26 -/
def lexpriorref01_Uint.f : Nat → Int → Option (List Int)
  | 0, _ => none
  | k + 1, a0 => if a0 < 128 then (some (([(a0) % 256] : List Int))) else ((some (([Go.bits .or .u8 ((Int.tmod a0 128) % 256) 128] : List Int) : List Int)).bind fun y146 => ((lexpriorref01_Uint.f k (IntKind.u64.wrap (Int.tdiv a0 128))).bind fun t149 => (if y146.length + t149.length < 140737488355328 then (some (y146 ++ t149)) else (none))))
theorem lexpriorref01_Uint.mono_l : ∀ k, (∀ y0, LeO (lexpriorref01_Uint.f k y0) (lexpriorref01_Uint.f (k + 1) y0))
  | 0 => fun _ r h => by simp [lexpriorref01_Uint.f] at h
  | k + 1 => by
    have ih0 := lexpriorref01_Uint.mono_l k
    · intro y0
      unfold lexpriorref01_Uint.f
      repeat' first
      | (with_reducible exact ih0 _)
      | (with_reducible exact LeO.refl _)
      | (with_reducible exact LeO.none _)
      | (with_reducible refine LeO.ite ?_ ?_)
      | (with_reducible refine LeO.bind ?_ (fun _ => ?_))
      | exact ih0 _
      | exact LeO.none _
      | refine LeO.ite ?_ ?_
      | refine LeO.bind ?_ (fun _ => ?_)
theorem lexpriorref01_Uint.mono : ∀ a0 k, LeO (lexpriorref01_Uint.f k a0) (lexpriorref01_Uint.f (k + 1) a0) := by
  intro a0 k
  have ih0 := lexpriorref01_Uint.mono_l k
  exact ih0 a0
set_option maxHeartbeats 8000000 in
set_option maxRecDepth 100000 in
theorem lexpriorref01_Uint.calls (k : Nat) : ∀ (a0 : Int) (r : List Int) (w : World) (h : lexpriorref01_Uint.f k a0 = some r),
    Calls Try.prog 26 #[.int .u64 a0] w fun e w' => ∃ v0_ : Value, e = .returned (v0_) ∧ Kd.R (Kd.int .u8) 5 w' w.heap.size (fun _ => True) v0_ r ∧ Below w.heap.size w w' := by
  induction k using Nat.strongRecOn with
  | _ k ih =>
  intro a0 r w h
  cases k with
  | zero => exact absurd h (by simp [lexpriorref01_Uint.f])
  | succ k =>
  simp only [lexpriorref01_Uint.f] at h
  have HB := Aside0.mk (Below.refl w.heap.size w)
  have H : (if a0 < 128 then (some (([(a0) % 256] : List Int))) else ((some (([Go.bits .or .u8 ((Int.tmod a0 128) % 256) 128] : List Int) : List Int)).bind fun y146 => ((lexpriorref01_Uint.f k (IntKind.u64.wrap (Int.tdiv a0 128))).bind fun t149 => (if y146.length + t149.length < 140737488355328 then (some (y146 ++ t149)) else (none))))) = some r := h
  clear h
  by_cases c2 : a0 < 128
  · rw [if_pos c2] at H
    have c2b0 : decide (a0 < 128) = true := decide_eq_true c2
    clear c2
    obtain ⟨y143, hy143⟩ : ∃ y_ : List Int, y_ = (([(a0) % 256] : List Int)) := ⟨_, rfl⟩
    replace H : (some y143) = some r := by first | (rw [hy143]; with_reducible exact H) | (have H2_ := (Option.bind_some _ _).symm.trans H; rw [hy143]; with_reducible exact H2_) | (have H2_ := (Option.bind_some _ _).symm.trans H; with_reducible exact H2_) | with_reducible exact H | (rw [hy143]; exact H) | exact H
    have Ny143 := Aside0.mk hy143
    clear hy143
    obtain rfl := Option.some.inj H
    go_enter Try.func26, Try.ntmps26
    go_wp2_with (first | ((with_reducible refine gate_dst (N := 7) rfl ?_); refine Kd.R_lit (Kd.int .u8) _ 5 ?hg (N := 7) ?hd (xs := ([(a0) % 256] : List Int)) (inner := [.int .u8 ((a0) % 256)]) (ok := fun _ => True) (okp := fun _ => True) ?hr ?hp (fun _ hk => hk) trivial (Below.refl _ _) (Nat.le_refl _) (by simp) ?_; (case hd => rfl); (case hg => rfl); (case hr => first | (go_simp; done) | (go_simp; rfl)); (case hp => exact (Reps.one (show Kd.M (Kd.int .u8) _ _ _ ((a0) % 256) [.int .u8 ((a0) % 256)] from rfl) (Reps.none _ _))); intro v144 w3 ho4 hb hg_ hnew_; clear hg_ hnew_; (first | rw [← Ny143.out] at ho4 | (simp only [Int.reduceToNat] at ho4; rw [← Ny143.out] at ho4)); have n0_ := Aside0.mk (Kd.R_lower ho4 (below_size (by repeat (first | (with_reducible first | exact HB.out | apply below_alloc | apply pw_below_drewN | apply below_drew1) | exact HB.out)))); have n1_ := Aside0.mk (below_step (by repeat (first | (with_reducible first | exact HB.out | apply below_alloc | apply pw_below_drewN | apply below_drew1) | exact HB.out)) hb); clear HB; have HO145 := n0_; have HB := n1_; clear n0_ n1_; clear hb ho4))
    go_ret
    exact ⟨_, by first | rfl | (simp [errW_none, errW_some] <;> rfl) | (simp [*, errW_none, errW_some] <;> rfl), by (with_reducible repeat (first | apply Kd.R_alloc | apply Kd.R_drewN | apply Kd.R_drew)); exact HO145.out, by repeat (first | (with_reducible first | exact HB.out | apply below_alloc | apply pw_below_drewN | apply below_drew1) | exact HB.out)⟩
  · rw [if_neg c2] at H
    have c2b0 : decide (a0 < 128) = false := decide_eq_false c2
    clear c2
    obtain ⟨y146, hy146⟩ : ∃ y_ : List Int, y_ = (([Go.bits .or .u8 ((Int.tmod a0 128) % 256) 128] : List Int)) := ⟨_, rfl⟩
    replace H : ((lexpriorref01_Uint.f k (IntKind.u64.wrap (Int.tdiv a0 128))).bind fun t149 => (if y146.length + t149.length < 140737488355328 then (some (y146 ++ t149)) else (none))) = some r := by first | (rw [hy146]; with_reducible exact H) | (have H2_ := (Option.bind_some _ _).symm.trans H; rw [hy146]; with_reducible exact H2_) | (have H2_ := (Option.bind_some _ _).symm.trans H; with_reducible exact H2_) | with_reducible exact H | (rw [hy146]; exact H) | exact H
    have Ny146 := Aside0.mk hy146
    clear hy146
    replace H := Option.bind_eq_some_iff.mp H
    obtain ⟨t149, A50, H⟩ := H
    replace H : (if y146.length + t149.length < 140737488355328 then (some (y146 ++ t149)) else (none)) = some r := H
    have A5 := Aside0.mk A50
    clear A50
    by_cases c6 : y146.length + t149.length < 140737488355328
    · rw [if_pos c6] at H
      have LMc6 := Aside0.mk c6
      clear c6
      obtain ⟨y152, hy152⟩ : ∃ y_ : List Int, y_ = (y146 ++ t149) := ⟨_, rfl⟩
      replace H : (some y152) = some r := by first | (rw [hy152]; with_reducible exact H) | (have H2_ := (Option.bind_some _ _).symm.trans H; rw [hy152]; with_reducible exact H2_) | (have H2_ := (Option.bind_some _ _).symm.trans H; with_reducible exact H2_) | with_reducible exact H | (rw [hy152]; exact H) | exact H
      have Ny152 := Aside0.mk hy152
      clear hy152
      obtain rfl := Option.some.inj H
      go_enter Try.func26, Try.ntmps26
      go_wp2_with (first | ((with_reducible refine gate_dst (N := 12) rfl ?_); refine Kd.R_lit (Kd.int .u8) _ 5 ?hg (N := 12) ?hd (xs := ([Go.bits .or .u8 ((Int.tmod a0 128) % 256) 128] : List Int)) (inner := [.int .u8 (Go.bits .or .u8 ((Int.tmod a0 128) % 256) 128)]) (ok := fun _ => True) (okp := fun _ => True) ?hr ?hp (fun _ hk => hk) trivial (Below.refl _ _) (Nat.le_refl _) (by simp) ?_; (case hd => rfl); (case hg => rfl); (case hr => first | (go_simp; done) | (go_simp; rfl)); (case hp => exact (Reps.one (show Kd.M (Kd.int .u8) _ _ _ (Go.bits .or .u8 ((Int.tmod a0 128) % 256) 128) [.int .u8 (Go.bits .or .u8 ((Int.tmod a0 128) % 256) 128)] from rfl) (Reps.none _ _))); intro v147 w7 ho8 hb hg_ hnew_; clear hg_ hnew_; (first | rw [← Ny146.out] at ho8 | (simp only [Int.reduceToNat] at ho8; rw [← Ny146.out] at ho8)); have n0_ := Aside0.mk (Kd.R_lower ho8 (below_size (by repeat (first | (with_reducible first | exact HB.out | apply below_alloc | apply pw_below_drewN | apply below_drew1) | exact HB.out)))); have n1_ := Aside0.mk (below_step (by repeat (first | (with_reducible first | exact HB.out | apply below_alloc | apply pw_below_drewN | apply below_drew1) | exact HB.out)) hb); clear HB; have HO148 := n0_; have HB := n1_; clear n0_ n1_; clear hb ho8) | ((with_reducible refine gate_callee (f := 26) rfl ?_); refine goesL_ (some 15) rfl rfl Try.func26 (by kernel_rfl) rfl #[.int .u64 (IntKind.u64.wrap (Int.tdiv a0 128))] rfl (by (try simp only [List.map_toArray, List.map_cons, List.map_nil]); first | done | rfl | (simp only [List.length_drop, List.length_take]; rfl)) ?_; (with_reducible refine (ih k (by omega) (IntKind.u64.wrap (Int.tdiv a0 128)) t149 _ A5.out).mono ?_); rintro e w9 ⟨v150, rfl, ho0, hb⟩; refine ⟨_, rfl, ?_⟩; have n0_ := Aside0.mk (Kd.R_elder' (by (with_reducible repeat (first | apply Kd.R_alloc | apply Kd.R_drewN | apply Kd.R_drew)); exact HO148.out) (Kd.R_base ho0) hb); have n1_ := Aside0.mk (Kd.R_lower (Kd.R_new' ho0 (Kd.R_lt (by (with_reducible repeat (first | apply Kd.R_alloc | apply Kd.R_drewN | apply Kd.R_drew)); exact HO148.out))) (below_size (by repeat (first | (with_reducible first | exact HB.out | apply below_alloc | apply pw_below_drewN | apply below_drew1) | exact HB.out)))); have n2_ := Aside0.mk (below_step (by repeat (first | (with_reducible first | exact HB.out | apply below_alloc | apply pw_below_drewN | apply below_drew1) | exact HB.out)) hb); clear HO148; clear HB; have HO148 := n0_; have HO151 := n1_; have HB := n2_; clear n0_ n1_ n2_; (try clear hb); (try clear hb2); (try clear hk); (try clear hi); (try clear ho0); obtain ⟨Ao11, co11, eo11⟩ := Kd.R_slice HO151.out; subst eo11) | ((with_reducible refine gate_builtin (b := .append) (xs := #[.tmp 12, .tmp 15]) rfl ?_); at_builtin; refine Kd.R_append_rows (Kd.int .u8) (w0 := w) w.heap.size rfl (.tmp 12) (.tmp 15) 29 5 (.int .u8 0) 1 rfl Try.underlying29 info5 rfl (by decide) (by omega) v147 y146 t149 _ _ _ (fun k_ => some k_ ≠ (.slice Ao11 t149.length co11 : Value).ownBlock) (fun _ => False) rfl rfl ?aO ?aR (fun _ _ h => h) (fun _ h => h.elim) ?aF ?aB ?aS ?aL ?_; (case aR => repeat (first | exact (Kd.R_reads' HO151.out).2.2 | (with_reducible refine Kd.C_alloc ?_ _) | (with_reducible refine Kd.C_drewN ?_ _) | (with_reducible refine Kd.C_drew ?_))); (case aB => exact (by repeat (first | (with_reducible first | exact HB.out | apply below_alloc | apply pw_below_drewN | apply below_drew1) | exact HB.out))); (case aF => exact (fun k_ hk => Kd.fresh' (Kd.R_lt (by (with_reducible repeat (first | apply Kd.R_alloc | apply Kd.R_drewN | apply Kd.R_drew)); exact HO151.out)) k_ hk)); (case aO => exact (by (with_reducible repeat (first | apply Kd.R_alloc | apply Kd.R_drewN | apply Kd.R_drew)); exact Kd.R_mono HO148.out (fun _ hk => hk.2))); (case aS => exact (below_size (by repeat (first | (with_reducible first | exact HB.out | apply below_alloc | apply pw_below_drewN | apply below_drew1) | exact HB.out)))); (case aL => have := LMc6.out; omega); intro v153 w10 ho hb hg hat; rw [← Ny152.out] at ho; have n0_ := Aside0.mk (Kd.R_after (ok := (fun _ => True)) (by (with_reducible repeat (first | apply Kd.R_alloc | apply Kd.R_drewN | apply Kd.R_drew)); exact HO151.out) hg hat); have n1_ := Aside0.mk (hb); have n2_ := Aside0.mk (ho); clear HO151; clear HB; clear HO148; have HO151 := n0_; have HB := n1_; have HO154 := n2_; clear n0_ n1_ n2_; clear ho hb hg hat))
      go_ret
      exact ⟨_, by first | rfl | (simp [errW_none, errW_some] <;> rfl) | (simp [*, errW_none, errW_some] <;> rfl), by (with_reducible repeat (first | apply Kd.R_alloc | apply Kd.R_drewN | apply Kd.R_drew)); exact Kd.R_mono HO154.out (fun _ hk => trivial), by repeat (first | (with_reducible first | exact HB.out | apply below_alloc | apply pw_below_drewN | apply below_drew1) | exact HB.out)⟩
    · rw [if_neg c6] at H
      exact absurd H (by simp)

/-! ### lexpriorref21_Little: function 27 -/
def lexpriorref21_Little.f (a0 : Int) : Option (List Int) := some (([(a0) % 256, (a0 / 256) % 256, (a0 / 65536) % 256, (a0 / 16777216) % 256] : List Int))
set_option maxHeartbeats 8000000 in
set_option maxRecDepth 100000 in
theorem lexpriorref21_Little.calls (a0 : Int) (r : List Int) (w : World) (h : lexpriorref21_Little.f a0 = some r) :
    Calls Try.prog 27 #[.int .u32 a0] w fun e w' => ∃ v0_ : Value, e = .returned (v0_) ∧ Kd.R (Kd.int .u8) 5 w' w.heap.size (fun _ => True) v0_ r ∧ Below w.heap.size w w' := by
  have HB := Aside0.mk (Below.refl w.heap.size w)
  have H : (some (([(a0) % 256, (a0 / 256) % 256, (a0 / 65536) % 256, (a0 / 16777216) % 256] : List Int))) = some r := h
  clear h
  obtain ⟨y155, hy155⟩ : ∃ y_ : List Int, y_ = (([(a0) % 256, (a0 / 256) % 256, (a0 / 65536) % 256, (a0 / 16777216) % 256] : List Int)) := ⟨_, rfl⟩
  replace H : (some y155) = some r := by first | (rw [hy155]; with_reducible exact H) | (have H2_ := (Option.bind_some _ _).symm.trans H; rw [hy155]; with_reducible exact H2_) | (have H2_ := (Option.bind_some _ _).symm.trans H; with_reducible exact H2_) | with_reducible exact H | (rw [hy155]; exact H) | exact H
  have Ny155 := Aside0.mk hy155
  clear hy155
  obtain rfl := Option.some.inj H
  go_enter Try.func27, Try.ntmps27
  go_wp2_with (first | ((with_reducible refine gate_dst (N := 14) rfl ?_); refine Kd.R_lit (Kd.int .u8) _ 5 ?hg (N := 14) ?hd (xs := ([(a0) % 256, (a0 / 256) % 256, (a0 / 65536) % 256, (a0 / 16777216) % 256] : List Int)) (inner := [.int .u8 ((a0) % 256), .int .u8 ((a0 / 256) % 256), .int .u8 ((a0 / 65536) % 256), .int .u8 ((a0 / 16777216) % 256)]) (ok := fun _ => True) (okp := fun _ => True) ?hr ?hp (fun _ hk => hk) trivial (Below.refl _ _) (Nat.le_refl _) (by simp) ?_; (case hd => rfl); (case hg => rfl); (case hr => first | (go_simp; done) | (go_simp; rfl)); (case hp => exact (Reps.one (show Kd.M (Kd.int .u8) _ _ _ ((a0) % 256) [.int .u8 ((a0) % 256)] from rfl) (Reps.one (show Kd.M (Kd.int .u8) _ _ _ ((a0 / 256) % 256) [.int .u8 ((a0 / 256) % 256)] from rfl) (Reps.one (show Kd.M (Kd.int .u8) _ _ _ ((a0 / 65536) % 256) [.int .u8 ((a0 / 65536) % 256)] from rfl) (Reps.one (show Kd.M (Kd.int .u8) _ _ _ ((a0 / 16777216) % 256) [.int .u8 ((a0 / 16777216) % 256)] from rfl) (Reps.none _ _)))))); intro v156 w2 ho3 hb hg_ hnew_; clear hg_ hnew_; (first | rw [← Ny155.out] at ho3 | (simp only [Int.reduceToNat] at ho3; rw [← Ny155.out] at ho3)); have n0_ := Aside0.mk (Kd.R_lower ho3 (below_size (by repeat (first | (with_reducible first | exact HB.out | apply below_alloc | apply pw_below_drewN | apply below_drew1) | exact HB.out)))); have n1_ := Aside0.mk (below_step (by repeat (first | (with_reducible first | exact HB.out | apply below_alloc | apply pw_below_drewN | apply below_drew1) | exact HB.out)) hb); clear HB; have HO157 := n0_; have HB := n1_; clear n0_ n1_; clear hb ho3))
  go_ret
  exact ⟨_, by first | rfl | (simp [errW_none, errW_some] <;> rfl) | (simp [*, errW_none, errW_some] <;> rfl), by (with_reducible repeat (first | apply Kd.R_alloc | apply Kd.R_drewN | apply Kd.R_drew)); exact HO157.out, by repeat (first | (with_reducible first | exact HB.out | apply below_alloc | apply pw_below_drewN | apply below_drew1) | exact HB.out)⟩

end Go.Proofs.Ytccoeecladhfmaa.P
