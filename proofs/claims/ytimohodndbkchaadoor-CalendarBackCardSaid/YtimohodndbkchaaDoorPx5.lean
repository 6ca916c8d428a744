-- Written by lexprint.py, a program of this session's own that runs the kit's print with turned rows. Lean checks it.
import Derived.Test.YtimohodndbkchaaDoorPx0
import Derived.Test.YtimohodndbkchaaDoorPx1
import Derived.Test.YtimohodndbkchaaDoorPx3
namespace Go.Proofs.YtimohodndbkchaaDoor.P
open Go.RowKit Go.Proofs.YtimohodndbkchaaDoorW.PrintWords Go.Proofs.YtimohodndbkchaaDoorW.PrintLast Go.Proofs.YtimohodndbkchaaDoorW.PrintMore
attribute [local go_sem] max2_int min2_int max_two min_two max_three min_three max_four min_four   -- for this text's walks alone
set_option linter.unusedVariables false
set_option linter.unusedSimpArgs false

/-! ### calendar_Parse: function 20 -/
def pst (s : ByteArray) : Nat → Int × Int × Int
  | 0 => (0, 0, 0)
  | k + 1 => if k < 4 then (10 * (pst s k).1 + (bt s k - 48), (pst s k).2.1, (pst s k).2.2) else if k = 4 ∨ k = 7 then pst s k else if k < 7 then ((pst s k).1, 10 * (pst s k).2.1 + (bt s k - 48), (pst s k).2.2) else ((pst s k).1, (pst s k).2.1, 10 * (pst s k).2.2 + (bt s k - 48))
def okc (s : ByteArray) (i : Nat) : Bool := if i = 4 ∨ i = 7 then decide (bt s i = 45) else decide (48 ≤ bt s i ∧ bt s i ≤ 57)
def calendar_Parse.f (a0 : ByteArray) : Option (Int × Int) := if a0.size = 10 ∧ (List.range 10).all (okc a0) = true then calendar_Of.f (pst a0 10).1 (pst a0 10).2.1 (pst a0 10).2.2 else some (0, 31)
theorem okc_dash (s : ByteArray) (i : Nat) (h : i = 4 ∨ i = 7) : okc s i = decide (bt s i = 45) := by unfold okc; rw [if_pos h]
theorem okc_num (s : ByteArray) (i : Nat) (h : ¬ (i = 4 ∨ i = 7)) : okc s i = decide (48 ≤ bt s i ∧ bt s i ≤ 57) := by unfold okc; rw [if_neg h]
theorem pst_fits (s : ByteArray) (k : Nat) (hk : k ≤ 10) (h : ∀ i, i < k → okc s i = true) : 0 ≤ (pst s k).1 ∧ (pst s k).1 ≤ 99999999999 ∧ 0 ≤ (pst s k).2.1 ∧ (pst s k).2.1 ≤ 99999999999 ∧ 0 ≤ (pst s k).2.2 ∧ (pst s k).2.2 ≤ 99999999999 := by
  have key : ∀ k : Nat, k ≤ 10 → (∀ i, i < k → okc s i = true) → 0 ≤ (pst s k).1 ∧ (pst s k).1 < 10 ^ k ∧ 0 ≤ (pst s k).2.1 ∧ (pst s k).2.1 < 10 ^ k ∧ 0 ≤ (pst s k).2.2 ∧ (pst s k).2.2 < 10 ^ k := by
    intro k
    induction k with
    | zero => intro _ _; simp [pst]
    | succ k ih =>
      intro hk h
      have a := ih (by omega) (fun i hi => h i (by omega))
      have o := h k (by omega)
      have p : (10 : Int) ^ (k + 1) = 10 * 10 ^ k := by rw [Int.pow_succ]; omega
      rw [p]
      by_cases g : k = 4 ∨ k = 7
      · rw [pst, if_neg (by omega), if_pos g]
        omega
      · rw [okc_num s k g] at o
        have o := of_decide_eq_true o
        unfold pst
        split
        · simp only; omega
        · split
          · simp only; omega
          · simp only; omega
  have a := key k hk h
  have p : (10 : Int) ^ k ≤ 10000000000 := by
    have : (10 : Nat) ^ k ≤ 10 ^ 10 := Nat.pow_le_pow_right (by decide) hk
    have e : ((10 ^ k : Nat) : Int) = (10 : Int) ^ k := by simp
    omega
  omega
theorem all_ok (s : ByteArray) (h : ∀ i, i < 10 → okc s i = true) : (List.range 10).all (okc s) = true := List.all_eq_true.2 fun i hi => h i (List.mem_range.1 hi)
theorem not_ok (s : ByteArray) (i : Nat) (hi : i < 10) (h : okc s i = false) : ¬ (List.range 10).all (okc s) = true := fun x => by
  have := List.all_eq_true.1 x i (List.mem_range.2 hi)
  rw [h] at this
  cases this
theorem ok_next {s : ByteArray} {k : Nat} (h : ∀ i, i < k → okc s i = true) (o : okc s k = true) : ∀ i, i < k + 1 → okc s i = true := fun i hi => by
  by_cases e : i = k
  · subst e; exact o
  · exact h i (by omega)
theorem bad {s : ByteArray} {r : Int × Int} (h : calendar_Parse.f s = some r) (n : ¬ (List.range 10).all (okc s) = true) : r = (0, 31) := by
  unfold calendar_Parse.f at h
  rw [if_neg (fun x => n x.2)] at h
  exact (Option.some.inj h).symm
set_option maxHeartbeats 1000000 in
theorem calendar_Parse.calls (a0 : ByteArray) (r1 : Int) (r2 : Int) (w : World) (h : calendar_Parse.f a0 = some (r1, r2)) :
    Calls Tryd.prog 20 #[.string a0] w fun e w' => e = .returned (.tuple #[.int .i64 r1, .int .i64 r2]) ∧ Below w.heap.size w w' := by
  by_cases hs : a0.size = 10
  · have HF := Lib.hid h
    clear h
    have hsz : (a0.size : Int) = 10 := by omega
    go_enter Tryd.func20, Tryd.ntmps20
    go_wp2
    go_loopw [5, 13] (fun v5 v13 wr => ∃ k : Nat, k ≤ 10 ∧ v13 = .int .i64 k ∧ v5 = .int .i64 ((if k ≤ 4 then 0 else if k ≤ 7 then 1 else 2 : Nat) : Int) ∧ Aside0 (∀ i, i < k → okc a0 i = true) ∧ Aside0 (wr.heap[w.heap.size]? = some (.cells #[.int .i64 (pst a0 k).1, .int .i64 (pst a0 k).2.1, .int .i64 (pst a0 k).2.2] 60 (0, 0))) ∧ Aside0 (Below w.heap.size w wr)) (fun _ v13 _ => 10 - (intOf v13).toNat)
    case atStart => exact ⟨0, by omega, rfl, rfl, ⟨fun i hi => absurd hi (Nat.not_lt_zero i)⟩, ⟨blk_new _ _⟩, ⟨below_alloc (Below.refl _ _) _⟩⟩
    case round =>
      obtain ⟨k, hk, rfl, hv5, HOK, HC, HB⟩ := hrel
      obtain ⟨f0, f1, f2, f3, f4, f5⟩ := pst_fits a0 k hk HOK.out
      by_cases hk10 : k < 10
      · have p4 : (0 ≤ (k : Int)) = True := eq_true (by omega)
        have q4 : ((k : Int) < (a0.size : Int)) = True := eq_true (by omega)
        have q5 : decide ((k : Int) < 10) = true := decide_eq_true (by omega)
        have hx4 : ((a0[k]'(by omega)).toNat : Int) = bt a0 (k : Int) := bt_at a0 (k : Int) (show (k : Int).toNat < a0.size by omega)
        have hcase : k = 4 ∨ k = 7 ∨ k < 4 ∨ (4 < k ∧ k < 7) ∨ 7 < k := by omega
        rcases hcase with hc | hc | hc | hc | hc
        · replace hv5 := hv5.trans (by rw [hc]; rfl : _ = Value.int .i64 0)
          subst hv5
          subst hc
          have hok := okc_dash a0 4 (by decide)
          have hx : ((a0[4]'(by omega)).toNat : Int) = bt a0 4 := bt_at a0 4 (show (4 : Int).toNat < a0.size by omega)
          by_cases hd : bt a0 4 = 45
          · have l1 : (bt a0 4 != 45) = false := by rw [hd]; rfl
            replace hok : okc a0 4 = true := hok.trans (decide_eq_true hd)
            have HO := Lib.hid hok
            clear hok hd
            go_wp2
            go_roundw
            case rel => exact ⟨4 + 1, by omega, by go_num, by go_num, ⟨ok_next HOK.out HO.out⟩, HC, HB⟩
            case measure => simp [intOf]
          · have l1 : (bt a0 4 != 45) = true := bne_iff_ne.2 hd
            replace hok : okc a0 4 = false := hok.trans (decide_eq_false hd)
            have HN := Lib.hid (not_ok a0 4 (by omega) hok)
            clear hok hd
            go_wp2
            go_ret2
            exact ⟨by obtain ⟨rfl, rfl⟩ := Prod.mk.inj (bad HF.out HN.out); rfl, HB.out⟩
        · replace hv5 := hv5.trans (by rw [hc]; rfl : _ = Value.int .i64 1)
          subst hv5
          subst hc
          have hok := okc_dash a0 7 (by decide)
          have hx : ((a0[7]'(by omega)).toNat : Int) = bt a0 7 := bt_at a0 7 (show (7 : Int).toNat < a0.size by omega)
          by_cases hd : bt a0 7 = 45
          · have l1 : (bt a0 7 != 45) = false := by rw [hd]; rfl
            replace hok : okc a0 7 = true := hok.trans (decide_eq_true hd)
            have HO := Lib.hid hok
            clear hok hd
            go_wp2
            go_roundw
            case rel => exact ⟨7 + 1, by omega, by go_num, by go_num, ⟨ok_next HOK.out HO.out⟩, HC, HB⟩
            case measure => simp [intOf]
          · have l1 : (bt a0 7 != 45) = true := bne_iff_ne.2 hd
            replace hok : okc a0 7 = false := hok.trans (decide_eq_false hd)
            have HN := Lib.hid (not_ok a0 7 (by omega) hok)
            clear hok hd
            go_wp2
            go_ret2
            exact ⟨by obtain ⟨rfl, rfl⟩ := Prod.mk.inj (bad HF.out HN.out); rfl, HB.out⟩
        · replace hv5 := hv5.trans (by rw [if_pos (by omega)]; rfl : _ = Value.int .i64 0)
          subst hv5
          have e4 : ((k : Int) == 4) = false := beq_eq_false_iff_ne.2 (by omega)
          have e7 : ((k : Int) == 7) = false := beq_eq_false_iff_ne.2 (by omega)
          have hg : ¬ (k = 4 ∨ k = 7) := by omega
          have hok := okc_num a0 k hg
          by_cases lo : bt a0 (k : Int) < 48
          · have l1 : decide (bt a0 (k : Int) < 48) = true := decide_eq_true lo
            rw [decide_eq_false (by omega)] at hok
            have HN := Lib.hid (not_ok a0 k hk10 hok)
            clear hok hg lo
            go_wp2
            go_ret2
            exact ⟨by obtain ⟨rfl, rfl⟩ := Prod.mk.inj (bad HF.out HN.out); rfl, HB.out⟩
          · have l1 : decide (bt a0 (k : Int) < 48) = false := decide_eq_false lo
            by_cases hi : 57 < bt a0 (k : Int)
            · have l2 : decide (57 < bt a0 (k : Int)) = true := decide_eq_true hi
              rw [decide_eq_false (by omega)] at hok
              have HN := Lib.hid (not_ok a0 k hk10 hok)
              clear hok hg lo hi
              go_wp2
              go_ret2
              exact ⟨by obtain ⟨rfl, rfl⟩ := Prod.mk.inj (bad HF.out HN.out); rfl, HB.out⟩
            · have l2 : decide (57 < bt a0 (k : Int)) = false := decide_eq_false hi
              rw [decide_eq_true (by omega)] at hok
              have HO := Lib.hid hok
              have HP := Lib.hid (show pst a0 (k + 1) = (10 * (pst a0 k).1 + (bt a0 k - 48), (pst a0 k).2.1, (pst a0 k).2.2) from by rw [pst, if_pos hc])
              have hcell : wr.cell? ⟨w.heap.size, 0, none⟩ = some (.int .i64 (pst a0 k).1) := blk_cell HC.out 0
              have hfr := blk_frozen HC.out 0
              have u3 : wrap64 (bt a0 (k : Int) - 48) = bt a0 (k : Int) - 48 := by unfold wrap64; omega
              have u0 : IntKind.u8.wrap (bt a0 (k : Int) - 48) = bt a0 (k : Int) - 48 := by rw [IntKind.wrap_u8]; omega
              have u1 : wrap64 (10 * (pst a0 k).1) = 10 * (pst a0 k).1 := by unfold wrap64; omega
              have u2 : wrap64 (10 * (pst a0 k).1 + (bt a0 (k : Int) - 48)) = 10 * (pst a0 k).1 + (bt a0 (k : Int) - 48) := by unfold wrap64; omega
              clear hok hg lo hi
              go_wp2
              go_roundw
              case rel => exact ⟨k + 1, by omega, by go_num, by rw [if_pos (by omega)]; rfl, ⟨ok_next HOK.out HO.out⟩, ⟨by rw [HP.out]; exact blk_set HC.out 0 (.int .i64 (10 * (pst a0 k).1 + (bt a0 (k : Int) - 48)))⟩, ⟨below_set HB.out (Nat.le_refl _)⟩⟩
              case measure => simp [intOf]; omega
        · replace hv5 := hv5.trans (by rw [if_neg (by omega), if_pos (by omega)]; rfl : _ = Value.int .i64 1)
          subst hv5
          have e4 : ((k : Int) == 4) = false := beq_eq_false_iff_ne.2 (by omega)
          have e7 : ((k : Int) == 7) = false := beq_eq_false_iff_ne.2 (by omega)
          have hg : ¬ (k = 4 ∨ k = 7) := by omega
          have hok := okc_num a0 k hg
          by_cases lo : bt a0 (k : Int) < 48
          · have l1 : decide (bt a0 (k : Int) < 48) = true := decide_eq_true lo
            rw [decide_eq_false (by omega)] at hok
            have HN := Lib.hid (not_ok a0 k hk10 hok)
            clear hok hg lo
            go_wp2
            go_ret2
            exact ⟨by obtain ⟨rfl, rfl⟩ := Prod.mk.inj (bad HF.out HN.out); rfl, HB.out⟩
          · have l1 : decide (bt a0 (k : Int) < 48) = false := decide_eq_false lo
            by_cases hi : 57 < bt a0 (k : Int)
            · have l2 : decide (57 < bt a0 (k : Int)) = true := decide_eq_true hi
              rw [decide_eq_false (by omega)] at hok
              have HN := Lib.hid (not_ok a0 k hk10 hok)
              clear hok hg lo hi
              go_wp2
              go_ret2
              exact ⟨by obtain ⟨rfl, rfl⟩ := Prod.mk.inj (bad HF.out HN.out); rfl, HB.out⟩
            · have l2 : decide (57 < bt a0 (k : Int)) = false := decide_eq_false hi
              rw [decide_eq_true (by omega)] at hok
              have HO := Lib.hid hok
              have HP := Lib.hid (show pst a0 (k + 1) = ((pst a0 k).1, 10 * (pst a0 k).2.1 + (bt a0 k - 48), (pst a0 k).2.2) from by rw [pst, if_neg (by omega), if_neg hg, if_pos hc.2])
              have hcell : wr.cell? ⟨w.heap.size, 1, none⟩ = some (.int .i64 (pst a0 k).2.1) := blk_cell HC.out 1
              have hfr := blk_frozen HC.out 1
              have u3 : wrap64 (bt a0 (k : Int) - 48) = bt a0 (k : Int) - 48 := by unfold wrap64; omega
              have u0 : IntKind.u8.wrap (bt a0 (k : Int) - 48) = bt a0 (k : Int) - 48 := by rw [IntKind.wrap_u8]; omega
              have u1 : wrap64 (10 * (pst a0 k).2.1) = 10 * (pst a0 k).2.1 := by unfold wrap64; omega
              have u2 : wrap64 (10 * (pst a0 k).2.1 + (bt a0 (k : Int) - 48)) = 10 * (pst a0 k).2.1 + (bt a0 (k : Int) - 48) := by unfold wrap64; omega
              clear hok hg lo hi
              go_wp2
              go_roundw
              case rel => exact ⟨k + 1, by omega, by go_num, by rw [if_neg (by omega), if_pos (by omega)]; rfl, ⟨ok_next HOK.out HO.out⟩, ⟨by rw [HP.out]; exact blk_set HC.out 1 (.int .i64 (10 * (pst a0 k).2.1 + (bt a0 (k : Int) - 48)))⟩, ⟨below_set HB.out (Nat.le_refl _)⟩⟩
              case measure => simp [intOf]; omega
        · replace hv5 := hv5.trans (by rw [if_neg (by omega), if_neg (by omega)]; rfl : _ = Value.int .i64 2)
          subst hv5
          have e4 : ((k : Int) == 4) = false := beq_eq_false_iff_ne.2 (by omega)
          have e7 : ((k : Int) == 7) = false := beq_eq_false_iff_ne.2 (by omega)
          have hg : ¬ (k = 4 ∨ k = 7) := by omega
          have hok := okc_num a0 k hg
          by_cases lo : bt a0 (k : Int) < 48
          · have l1 : decide (bt a0 (k : Int) < 48) = true := decide_eq_true lo
            rw [decide_eq_false (by omega)] at hok
            have HN := Lib.hid (not_ok a0 k hk10 hok)
            clear hok hg lo
            go_wp2
            go_ret2
            exact ⟨by obtain ⟨rfl, rfl⟩ := Prod.mk.inj (bad HF.out HN.out); rfl, HB.out⟩
          · have l1 : decide (bt a0 (k : Int) < 48) = false := decide_eq_false lo
            by_cases hi : 57 < bt a0 (k : Int)
            · have l2 : decide (57 < bt a0 (k : Int)) = true := decide_eq_true hi
              rw [decide_eq_false (by omega)] at hok
              have HN := Lib.hid (not_ok a0 k hk10 hok)
              clear hok hg lo hi
              go_wp2
              go_ret2
              exact ⟨by obtain ⟨rfl, rfl⟩ := Prod.mk.inj (bad HF.out HN.out); rfl, HB.out⟩
            · have l2 : decide (57 < bt a0 (k : Int)) = false := decide_eq_false hi
              rw [decide_eq_true (by omega)] at hok
              have HO := Lib.hid hok
              have HP := Lib.hid (show pst a0 (k + 1) = ((pst a0 k).1, (pst a0 k).2.1, 10 * (pst a0 k).2.2 + (bt a0 k - 48)) from by rw [pst, if_neg (by omega), if_neg hg, if_neg (by omega)])
              have hcell : wr.cell? ⟨w.heap.size, 2, none⟩ = some (.int .i64 (pst a0 k).2.2) := blk_cell HC.out 2
              have hfr := blk_frozen HC.out 2
              have u3 : wrap64 (bt a0 (k : Int) - 48) = bt a0 (k : Int) - 48 := by unfold wrap64; omega
              have u0 : IntKind.u8.wrap (bt a0 (k : Int) - 48) = bt a0 (k : Int) - 48 := by rw [IntKind.wrap_u8]; omega
              have u1 : wrap64 (10 * (pst a0 k).2.2) = 10 * (pst a0 k).2.2 := by unfold wrap64; omega
              have u2 : wrap64 (10 * (pst a0 k).2.2 + (bt a0 (k : Int) - 48)) = 10 * (pst a0 k).2.2 + (bt a0 (k : Int) - 48) := by unfold wrap64; omega
              clear hok hg lo hi
              go_wp2
              go_roundw
              case rel => exact ⟨k + 1, by omega, by go_num, by rw [if_neg (by omega), if_neg (by omega)]; rfl, ⟨ok_next HOK.out HO.out⟩, ⟨by rw [HP.out]; exact blk_set HC.out 2 (.int .i64 (10 * (pst a0 k).2.2 + (bt a0 (k : Int) - 48)))⟩, ⟨below_set HB.out (Nat.le_refl _)⟩⟩
              case measure => simp [intOf]; omega
      · obtain rfl : k = 10 := by omega
        have hE := HF.out
        unfold calendar_Parse.f at hE
        rw [if_pos ⟨hs, all_ok a0 HOK.out⟩] at hE
        replace hv5 := hv5.trans (by rfl : _ = Value.int .i64 2)
        subst hv5
        have HE := Lib.hid hE
        have hc0 : wr.cell? ⟨w.heap.size, 0, none⟩ = some (.int .i64 (pst a0 10).1) := blk_cell HC.out 0
        have hc1 : wr.cell? ⟨w.heap.size, 1, none⟩ = some (.int .i64 (pst a0 10).2.1) := blk_cell HC.out 1
        have hc2 : wr.cell? ⟨w.heap.size, 2, none⟩ = some (.int .i64 (pst a0 10).2.2) := blk_cell HC.out 2
        clear hE
        go_wp2_with (go_at_call 14; refine (calendar_Of.calls _ _ _ r1 r2 _ HE.out).mono ?_; rintro e w' ⟨rfl, hd⟩)
        go_ret2
        exact ⟨rfl, below_step HB.out hd⟩
  · unfold calendar_Parse.f at h
    rw [if_neg (fun x => hs x.1)] at h
    obtain ⟨rfl, rfl⟩ := Prod.mk.inj (Option.some.inj h)
    have hsz : ((a0.size : Int) == 10) = false := beq_eq_false_iff_ne.2 (by omega)
    go_enter Tryd.func20, Tryd.ntmps20
    go_wp2
    go_ret2
    exact ⟨rfl, Below.refl _ _⟩


/-! ### lexpriorref03_number: function 37 -/
def lexpriorref03_number.l0 : Nat → ByteArray → Int → Int → Option (Int)
  | 0, _, _, _ => none
  | k + 1, x0, x3, x4 => if x4 < (x0.size : Int) then (if 0 ≤ x4 then (if (bt x0 x4) < 48 then (some (-1)) else (if (bt x0 x4) > 57 then (some (-1)) else (lexpriorref03_number.l0 k x0 (wrap64 ((wrap64 (x3 * 10)) + (((bt x0 x4) - 48) % 256))) (wrap64 (x4 + 1))))) else (none)) else (some x3)
def lexpriorref03_number.f (k : Nat) (a0 : ByteArray) : Option (Int) := lexpriorref03_number.l0 k a0 0 0
theorem lexpriorref03_number.mono_l : ∀ k, (∀ y0 y1 y2, LeO (lexpriorref03_number.l0 k y0 y1 y2) (lexpriorref03_number.l0 (k + 1) y0 y1 y2))
  | 0 => fun _ _ _ r h => by simp [lexpriorref03_number.l0] at h
  | k + 1 => by
    have ih0 := lexpriorref03_number.mono_l k
    · intro y0 y1 y2
      unfold lexpriorref03_number.l0
      repeat' first
      | (with_reducible exact ih0 _ _ _)
      | (with_reducible exact LeO.refl _)
      | (with_reducible exact LeO.none _)
      | (with_reducible refine LeO.ite ?_ ?_)
      | (with_reducible refine LeO.bind ?_ (fun _ => ?_))
      | exact ih0 _ _ _
      | exact LeO.none _
      | refine LeO.ite ?_ ?_
      | refine LeO.bind ?_ (fun _ => ?_)
theorem lexpriorref03_number.mono : ∀ a0 k, LeO (lexpriorref03_number.f k a0) (lexpriorref03_number.f (k + 1) a0) := by
  intro a0 k
  have ih0 := lexpriorref03_number.mono_l k
  unfold lexpriorref03_number.f
  repeat' first
      | (with_reducible exact ih0 _ _ _)
      | (with_reducible exact LeO.refl _)
      | (with_reducible exact LeO.none _)
      | (with_reducible refine LeO.ite ?_ ?_)
      | (with_reducible refine LeO.bind ?_ (fun _ => ?_))
      | exact ih0 _ _ _
      | exact LeO.none _
      | refine LeO.ite ?_ ?_
      | refine LeO.bind ?_ (fun _ => ?_)
set_option maxHeartbeats 8000000 in
set_option maxRecDepth 100000 in
theorem lexpriorref03_number.calls (k : Nat) (a0 : ByteArray) (r : Int) (w : World) (h : lexpriorref03_number.f k a0 = some r) :
    Calls Tryd.prog 37 #[.string a0] w fun e w' => e = .returned (.int .i64 r) ∧ Drawn0 w w' := by
  have H : (lexpriorref03_number.l0 k a0 0 0) = some r := h
  clear h
  have H' := Aside0.mk H
  clear H
  go_enter Tryd.func37, Tryd.ntmps37
  go_wp2
  go_loopg [3, 4] k (fun kq v3 v4 w' => ∃ (x3_1 : Int) (x4_1 : Int), v3 = .int .i64 x3_1 ∧ v4 = .int .i64 x4_1 ∧ Aside0 (lexpriorref03_number.l0 kq a0 x3_1 x4_1 = some r) ∧ Aside0 (kq ≤ k) ∧ Drawn0 w w')
  case atStart => exact ⟨(0), (0), (by first | rfl | (simp; done) | (simp [*]; done)), (by first | rfl | (simp; done) | (simp [*]; done)), H', ⟨Nat.le_refl _⟩, by repeat (first | exact Drawn0.refl _ | apply Drawn0.step)⟩
  case round =>
    clear H'
    obtain ⟨x3_1, x4_1, rfl, rfl, HA, HK1, ⟨m1, rfl⟩⟩ := hrel
    cases gk with
    | zero => exact absurd HA.out (by simp [lexpriorref03_number.l0])
    | succ k1 =>
      have H := HA.out
      clear HA
      simp only [lexpriorref03_number.l0] at H
      by_cases c2 : x4_1 < (a0.size : Int)
      · rw [if_pos c2] at H
        have c2b0 : decide (x4_1 < (a0.size : Int)) = true := decide_eq_true c2
        clear c2
        by_cases c3 : 0 ≤ x4_1
        · rw [if_pos c3] at H
          have c3b0 : decide (0 ≤ x4_1) = true := decide_eq_true c3
          clear c3
          by_cases c5 : (bt a0 x4_1) < 48
          · rw [if_pos c5] at H
            have c5b0 : decide ((bt a0 x4_1) < 48) = true := decide_eq_true c5
            clear c5
            obtain rfl := Option.some.inj H
            have p4 : 0 ≤ (x4_1 : Int) := of_decide_eq_true (by first | (with_reducible assumption) | assumption)
            have q4 : x4_1 < (a0.size : Int) := of_decide_eq_true (by first | (with_reducible assumption) | assumption)
            have hx4 := bt_at a0 x4_1
            replace p4 := eq_true p4
            replace q4 := eq_true q4
            go_wp2
            go_ret
            exact ⟨by first | rfl | (simp; done) | (simp [*]; done), by repeat (first | exact Drawn0.refl _ | apply Drawn0.step)⟩
          · rw [if_neg c5] at H
            have c5b0 : decide ((bt a0 x4_1) < 48) = false := decide_eq_false c5
            clear c5
            by_cases c7 : (bt a0 x4_1) > 57
            · rw [if_pos c7] at H
              have c7b0 : decide (57 < (bt a0 x4_1)) = true := decide_eq_true c7
              clear c7
              obtain rfl := Option.some.inj H
              have p4 : 0 ≤ (x4_1 : Int) := of_decide_eq_true (by first | (with_reducible assumption) | assumption)
              have q4 : x4_1 < (a0.size : Int) := of_decide_eq_true (by first | (with_reducible assumption) | assumption)
              have hx4 := bt_at a0 x4_1
              replace p4 := eq_true p4
              replace q4 := eq_true q4
              have p6 : 0 ≤ (x4_1 : Int) := of_decide_eq_true (by first | (with_reducible assumption) | assumption)
              have q6 : x4_1 < (a0.size : Int) := of_decide_eq_true (by first | (with_reducible assumption) | assumption)
              have hx6 := bt_at a0 x4_1
              replace p6 := eq_true p6
              replace q6 := eq_true q6
              go_wp2
              go_ret
              exact ⟨by first | rfl | (simp; done) | (simp [*]; done), by repeat (first | exact Drawn0.refl _ | apply Drawn0.step)⟩
            · rw [if_neg c7] at H
              have c7b0 : decide (57 < (bt a0 x4_1)) = false := decide_eq_false c7
              clear c7
              have H' := Aside0.mk H
              clear H
              have p4 : 0 ≤ (x4_1 : Int) := of_decide_eq_true (by first | (with_reducible assumption) | assumption)
              have q4 : x4_1 < (a0.size : Int) := of_decide_eq_true (by first | (with_reducible assumption) | assumption)
              have hx4 := bt_at a0 x4_1
              replace p4 := eq_true p4
              replace q4 := eq_true q4
              have p6 : 0 ≤ (x4_1 : Int) := of_decide_eq_true (by first | (with_reducible assumption) | assumption)
              have q6 : x4_1 < (a0.size : Int) := of_decide_eq_true (by first | (with_reducible assumption) | assumption)
              have hx6 := bt_at a0 x4_1
              replace p6 := eq_true p6
              replace q6 := eq_true q6
              have p8 : 0 ≤ (x4_1 : Int) := of_decide_eq_true (by first | (with_reducible assumption) | assumption)
              have q8 : x4_1 < (a0.size : Int) := of_decide_eq_true (by first | (with_reducible assumption) | assumption)
              have hx8 := bt_at a0 x4_1
              replace p8 := eq_true p8
              replace q8 := eq_true q8
              go_wp2
              go_roundg k1
              case measure => have := HK1.out; omega
              case rel => exact ⟨(wrap64 ((wrap64 (x3_1 * 10)) + (((bt a0 x4_1) - 48) % 256))), (wrap64 (x4_1 + 1)), (by first | rfl | (simp; done) | (simp [*]; done)), (by first | rfl | (simp; done) | (simp [*]; done)), H', ⟨by have := HK1.out; omega⟩, by repeat (first | exact Drawn0.refl _ | apply Drawn0.step)⟩
        · rw [if_neg c3] at H
          exact absurd H (by simp)
      · rw [if_neg c2] at H
        have c2b0 : decide (x4_1 < (a0.size : Int)) = false := decide_eq_false c2
        clear c2
        obtain rfl := Option.some.inj H
        go_wp2
        go_ret
        exact ⟨by first | rfl | (simp; done) | (simp [*]; done), by repeat (first | exact Drawn0.refl _ | apply Drawn0.step)⟩

/-! ### lexpriorref03_Parse: function 21 -/
def lexpriorref03_Parse.j0 : Nat → ByteArray → Bool → Option (Int × Int)
  | 0, _, _ => none
  | k + 1, x0, x16 => if x16 = true then (some (0, 31)) else (if 0 ≤ 4 then (if 4 ≤ (x0.size : Int) then ((lexpriorref03_number.f k (x0.extract 0 4)).bind fun t206 => (if 5 ≤ 7 then (if 7 ≤ (x0.size : Int) then ((lexpriorref03_number.f k (x0.extract 5 7)).bind fun t207 => (if 8 ≤ (x0.size : Int) then ((lexpriorref03_number.f k (x0.extract 8 x0.size)).bind fun t208 => ((lexpriorref03_Of.f k t206 t207 t208).bind fun bt209 => (some (bt209.1, bt209.2)))) else (none))) else (none)) else (none))) else (none)) else (none))
def lexpriorref03_Parse.f (k : Nat) (a0 : ByteArray) : Option (Int × Int) := if (a0.size : Int) = 10 then (if 4 < (a0.size : Int) then (if (bt a0 4) = 45 then (if 7 < (a0.size : Int) then (lexpriorref03_Parse.j0 k a0 ((bt a0 7) != 45)) else (none)) else (lexpriorref03_Parse.j0 k a0 true)) else (none)) else (lexpriorref03_Parse.j0 k a0 true)
theorem lexpriorref03_Parse.mono_l : ∀ k, (∀ y0 y1, LeO (lexpriorref03_Parse.j0 k y0 y1) (lexpriorref03_Parse.j0 (k + 1) y0 y1))
  | 0 => fun _ _ r h => by simp [lexpriorref03_Parse.j0] at h
  | k + 1 => by
    have ih0 := lexpriorref03_Parse.mono_l k
    · intro y0 y1
      unfold lexpriorref03_Parse.j0
      repeat' first
      | (with_reducible exact ih0 _ _)
      | (with_reducible exact lexpriorref03_Of.mono _ _ _ _)
      | (with_reducible exact lexpriorref03_number.mono _ _)
      | (with_reducible exact LeO.refl _)
      | (with_reducible exact LeO.none _)
      | (with_reducible refine LeO.ite ?_ ?_)
      | (with_reducible refine LeO.bind ?_ (fun _ => ?_))
      | exact ih0 _ _
      | exact lexpriorref03_Of.mono _ _ _ _
      | exact lexpriorref03_number.mono _ _
      | exact LeO.none _
      | refine LeO.ite ?_ ?_
      | refine LeO.bind ?_ (fun _ => ?_)
theorem lexpriorref03_Parse.mono : ∀ a0 k, LeO (lexpriorref03_Parse.f k a0) (lexpriorref03_Parse.f (k + 1) a0) := by
  intro a0 k
  have ih0 := lexpriorref03_Parse.mono_l k
  unfold lexpriorref03_Parse.f
  repeat' first
      | (with_reducible exact ih0 _ _)
      | (with_reducible exact lexpriorref03_Of.mono _ _ _ _)
      | (with_reducible exact lexpriorref03_number.mono _ _)
      | (with_reducible exact LeO.refl _)
      | (with_reducible exact LeO.none _)
      | (with_reducible refine LeO.ite ?_ ?_)
      | (with_reducible refine LeO.bind ?_ (fun _ => ?_))
      | exact ih0 _ _
      | exact lexpriorref03_Of.mono _ _ _ _
      | exact lexpriorref03_number.mono _ _
      | exact LeO.none _
      | refine LeO.ite ?_ ?_
      | refine LeO.bind ?_ (fun _ => ?_)
set_option maxHeartbeats 8000000 in
set_option maxRecDepth 100000 in
theorem lexpriorref03_Parse.calls (k : Nat) (a0 : ByteArray) (r1 : Int) (r2 : Int) (w : World) (h : lexpriorref03_Parse.f k a0 = some (r1, r2)) :
    Calls Tryd.prog 21 #[.string a0] w fun e w' => e = .returned (.tuple #[.int .i64 r1, .int .i64 r2]) ∧ Drawn0 w w' := by
  have H : (if (a0.size : Int) = 10 then (if 4 < (a0.size : Int) then (if (bt a0 4) = 45 then (if 7 < (a0.size : Int) then (lexpriorref03_Parse.j0 k a0 ((bt a0 7) != 45)) else (none)) else (lexpriorref03_Parse.j0 k a0 true)) else (none)) else (lexpriorref03_Parse.j0 k a0 true)) = some (r1, r2) := h
  clear h
  have HC2 := Aside0.mk H
  clear H
  go_enter Tryd.func21, Tryd.ntmps21
  go_upto_region 1 with (fail)
  repeat (go_quiet (fail); go_upto_region 1 with (fail))
  go_cut [16] (fun v16 wc => ∃ (kq : Nat) (x16_1 : Bool), v16 = .bool x16_1 ∧ Aside0 (lexpriorref03_Parse.j0 kq a0 x16_1 = some (r1, r2)) ∧ Aside0 (kq ≤ k) ∧ Drawn0 w wc)
  case first =>
    have H := HC2.out
    clear HC2
    by_cases c3 : (a0.size : Int) = 10
    · rw [if_pos c3] at H
      have c3b0 : ((a0.size : Int) == 10) = true := beq_iff_eq.mpr c3
      have c3b1 : ((a0.size : Int) != 10) = false := bne_eq_false_iff_eq.mpr c3
      clear c3
      (first | rw [c3b0] | (simp only [i64_w, i32_w]; rw [c3b0]) | skip)
      by_cases c4 : 4 < (a0.size : Int)
      · rw [if_pos c4] at H
        have c4b0 : decide (4 < (a0.size : Int)) = true := decide_eq_true c4
        have c4b1 : decide (4 < a0.size) = true := decide_eq_true (by omega)
        clear c4
        by_cases c6 : (bt a0 4) = 45
        · rw [if_pos c6] at H
          have c6b0 : ((bt a0 4) == 45) = true := beq_iff_eq.mpr c6
          have c6b1 : ((bt a0 4) != 45) = false := bne_eq_false_iff_eq.mpr c6
          clear c6
          by_cases c7 : 7 < (a0.size : Int)
          · rw [if_pos c7] at H
            have c7b0 : decide (7 < (a0.size : Int)) = true := decide_eq_true c7
            have c7b1 : decide (7 < a0.size) = true := decide_eq_true (by omega)
            clear c7
            have H' := Aside0.mk H
            clear H
            have p5 : 0 ≤ (4 : Int) := (by omega)
            have q5 : 4 < a0.size := (by have : (4 : Int) < (a0.size : Int) := of_decide_eq_true (by first | (with_reducible assumption) | assumption); omega)
            have hx5 : ∀ h : 4 < a0.size, ((a0[4]'h).toNat : Int) = bt a0 4 := bt_at a0 4
            clear p5
            have qi5 : (4 < (a0.size : Int)) = True := eq_true (of_decide_eq_true (by first | (with_reducible assumption) | assumption))
            replace q5 := eq_true q5
            have p8 : 0 ≤ (7 : Int) := (by omega)
            have q8 : 7 < a0.size := (by have : (7 : Int) < (a0.size : Int) := of_decide_eq_true (by first | (with_reducible assumption) | assumption); omega)
            have hx8 : ∀ h : 7 < a0.size, ((a0[7]'h).toNat : Int) = bt a0 7 := bt_at a0 7
            clear p8
            have qi8 : (7 < (a0.size : Int)) = True := eq_true (of_decide_eq_true (by first | (with_reducible assumption) | assumption))
            replace q8 := eq_true q8
            go_wp2
            repeat (go_quiet (fail); try go_wp2)
            go_meet
            case rel => exact ⟨_, (((bt a0 7) != 45)), (by first | rfl | (simp; done) | (simp [*]; done)), H', ⟨by first | omega | exact Nat.le_refl _⟩, by repeat (first | exact Drawn0.refl _ | apply Drawn0.step)⟩
          · rw [if_neg c7] at H
            exact absurd H (by simp)
        · rw [if_neg c6] at H
          have c6b0 : ((bt a0 4) == 45) = false := beq_eq_false_iff_ne.mpr c6
          have c6b1 : ((bt a0 4) != 45) = true := bne_iff_ne.mpr c6
          have H' := Aside0.mk H
          clear H
          have p5 : 0 ≤ (4 : Int) := (by omega)
          have q5 : 4 < a0.size := (by have : (4 : Int) < (a0.size : Int) := of_decide_eq_true (by first | (with_reducible assumption) | assumption); omega)
          have hx5 : ∀ h : 4 < a0.size, ((a0[4]'h).toNat : Int) = bt a0 4 := bt_at a0 4
          clear p5
          have qi5 : (4 < (a0.size : Int)) = True := eq_true (of_decide_eq_true (by first | (with_reducible assumption) | assumption))
          replace q5 := eq_true q5
          go_wp2
          repeat (go_quiet (fail); try go_wp2)
          go_meet
          case rel => exact ⟨_, (true), (by first | rfl | (simp; done) | (simp [*]; done)), H', ⟨by first | omega | exact Nat.le_refl _⟩, by repeat (first | exact Drawn0.refl _ | apply Drawn0.step)⟩
      · rw [if_neg c4] at H
        exact absurd H (by simp)
    · rw [if_neg c3] at H
      have c3b0 : ((a0.size : Int) == 10) = false := beq_eq_false_iff_ne.mpr c3
      have c3b1 : ((a0.size : Int) != 10) = true := bne_iff_ne.mpr c3
      (first | rw [c3b0] | (simp only [i64_w, i32_w]; rw [c3b0]) | skip)
      have H' := Aside0.mk H
      clear H
      go_wp2
      repeat (go_quiet (fail); try go_wp2)
      go_meet
      case rel => exact ⟨_, (true), (by first | rfl | (simp; done) | (simp [*]; done)), H', ⟨by first | omega | exact Nat.le_refl _⟩, by repeat (first | exact Drawn0.refl _ | apply Drawn0.step)⟩
  case rest =>
    clear HC2
    try clear c2
    try clear p2
    try clear c3
    try clear c3b0
    try clear c3b1
    try clear c4
    try clear c4b0
    try clear c4b1
    try clear p5
    try clear q5
    try clear hx5
    try clear qi5
    try clear c6
    try clear c6b0
    try clear c6b1
    try clear c7
    try clear c7b0
    try clear c7b1
    try clear p8
    try clear q8
    try clear hx8
    try clear qi8
    try clear p5
    try clear p8
    try clear q5
    try clear q8
    obtain ⟨kq, x16_1, rfl, HA, HJ1, ⟨mc1, rfl⟩⟩ := hcut
    cases kq with
    | zero => exact absurd HA.out (by simp [lexpriorref03_Parse.j0])
    | succ kj1 =>
      have H := HA.out
      clear HA
      simp only [lexpriorref03_Parse.j0] at H
      by_cases c9 : x16_1 = true
      · subst c9
        have H1 : (some (0, 31)) = some (r1, r2) := by rw [if_pos rfl] at H; exact H
        clear H
        have H := H1
        clear H1
        simp only [Option.some.injEq, Prod.mk.injEq] at H
        obtain ⟨rfl, rfl⟩ := H
        go_wp2
        repeat (go_quiet (fail); try go_wp2)
        go_ret2
        exact ⟨by first | rfl | (simp; done) | (simp [*]; done), by repeat (first | exact Drawn0.refl _ | apply Drawn0.step)⟩
      · replace c9 := Bool.eq_false_iff.mpr c9
        subst c9
        have H1 : (if 0 ≤ 4 then (if 4 ≤ (a0.size : Int) then ((lexpriorref03_number.f kj1 (a0.extract 0 4)).bind fun t206 => (if 5 ≤ 7 then (if 7 ≤ (a0.size : Int) then ((lexpriorref03_number.f kj1 (a0.extract 5 7)).bind fun t207 => (if 8 ≤ (a0.size : Int) then ((lexpriorref03_number.f kj1 (a0.extract 8 a0.size)).bind fun t208 => ((lexpriorref03_Of.f kj1 t206 t207 t208).bind fun bt209 => (some (bt209.1, bt209.2)))) else (none))) else (none)) else (none))) else (none)) else (none)) = some (r1, r2) := by rw [if_neg (show ¬ (false = true) by decide)] at H; exact H
        clear H
        have H := H1
        clear H1
        by_cases c10 : 0 ≤ 4
        · rw [if_pos c10] at H
          have c10b0 := eq_true c10
          have c10b1 : decide (0 ≤ 4) = true := decide_eq_true c10
          clear c10
          by_cases c11 : 4 ≤ (a0.size : Int)
          · rw [if_pos c11] at H
            have c11b0 := eq_true c11
            have c11b1 : decide (4 ≤ (a0.size : Int)) = true := decide_eq_true c11
            clear c11
            replace H := Option.bind_eq_some_iff.mp H
            obtain ⟨t206, A120, H⟩ := H
            replace H : (if 5 ≤ 7 then (if 7 ≤ (a0.size : Int) then ((lexpriorref03_number.f kj1 (a0.extract 5 7)).bind fun t207 => (if 8 ≤ (a0.size : Int) then ((lexpriorref03_number.f kj1 (a0.extract 8 a0.size)).bind fun t208 => ((lexpriorref03_Of.f kj1 t206 t207 t208).bind fun bt209 => (some (bt209.1, bt209.2)))) else (none))) else (none)) else (none)) = some (r1, r2) := H
            have A12 := Aside0.mk A120
            clear A120
            by_cases c13 : 5 ≤ 7
            · rw [if_pos c13] at H
              have c13b0 := eq_true c13
              have c13b1 : decide (5 ≤ 7) = true := decide_eq_true c13
              clear c13
              by_cases c14 : 7 ≤ (a0.size : Int)
              · rw [if_pos c14] at H
                have c14b0 := eq_true c14
                have c14b1 : decide (7 ≤ (a0.size : Int)) = true := decide_eq_true c14
                clear c14
                replace H := Option.bind_eq_some_iff.mp H
                obtain ⟨t207, A150, H⟩ := H
                replace H : (if 8 ≤ (a0.size : Int) then ((lexpriorref03_number.f kj1 (a0.extract 8 a0.size)).bind fun t208 => ((lexpriorref03_Of.f kj1 t206 t207 t208).bind fun bt209 => (some (bt209.1, bt209.2)))) else (none)) = some (r1, r2) := H
                have A15 := Aside0.mk A150
                clear A150
                by_cases c16 : 8 ≤ (a0.size : Int)
                · rw [if_pos c16] at H
                  have c16b0 := eq_true c16
                  have c16b1 : decide (8 ≤ (a0.size : Int)) = true := decide_eq_true c16
                  clear c16
                  replace H := Option.bind_eq_some_iff.mp H
                  obtain ⟨t208, A170, H⟩ := H
                  replace H : ((lexpriorref03_Of.f kj1 t206 t207 t208).bind fun bt209 => (some (bt209.1, bt209.2))) = some (r1, r2) := H
                  have A17 := Aside0.mk A170
                  clear A170
                  replace H := Option.bind_eq_some_iff.mp H
                  obtain ⟨⟨t209, t210⟩, A180, H⟩ := H
                  replace H : (some (t209, t210)) = some (r1, r2) := H
                  have A18 := Aside0.mk A180
                  clear A180
                  simp only [Option.some.injEq, Prod.mk.injEq] at H
                  obtain ⟨rfl, rfl⟩ := H
                  go_wp2_with (first | (go_at_call 37; (with_reducible refine (lexpriorref03_number.calls kj1 (a0.extract 0 4) t206 _ A12.out).mono ?_); rintro e w' ⟨rfl, ⟨nd, rfl⟩⟩; (try first | exact ⟨rfl, _, World.drewN_drewN _ _ _⟩ | exact ⟨rfl, _, Eq.trans (World.drewN_drewN _ _ _) (congrArg (World.drewN _) (Nat.add_assoc _ _ _))⟩)) | (go_at_call 37; (with_reducible refine (lexpriorref03_number.calls kj1 (a0.extract 5 7) t207 _ A15.out).mono ?_); rintro e w' ⟨rfl, ⟨nd, rfl⟩⟩; (try first | exact ⟨rfl, _, World.drewN_drewN _ _ _⟩ | exact ⟨rfl, _, Eq.trans (World.drewN_drewN _ _ _) (congrArg (World.drewN _) (Nat.add_assoc _ _ _))⟩)) | (go_at_call 37; (with_reducible refine (lexpriorref03_number.calls kj1 (a0.extract 8 a0.size) t208 _ A17.out).mono ?_); rintro e w' ⟨rfl, ⟨nd, rfl⟩⟩; (try first | exact ⟨rfl, _, World.drewN_drewN _ _ _⟩ | exact ⟨rfl, _, Eq.trans (World.drewN_drewN _ _ _) (congrArg (World.drewN _) (Nat.add_assoc _ _ _))⟩)) | (go_at_call 15; (with_reducible refine (lexpriorref03_Of.calls kj1 t206 t207 t208 t209 t210 _ A18.out).mono ?_); rintro e w' ⟨rfl, ⟨nd, rfl⟩⟩; (try first | exact ⟨rfl, _, World.drewN_drewN _ _ _⟩ | exact ⟨rfl, _, Eq.trans (World.drewN_drewN _ _ _) (congrArg (World.drewN _) (Nat.add_assoc _ _ _))⟩)))
                  repeat (go_quiet (first | (go_at_call 37; (with_reducible refine (lexpriorref03_number.calls kj1 (a0.extract 0 4) t206 _ A12.out).mono ?_); rintro e w' ⟨rfl, ⟨nd, rfl⟩⟩; (try first | exact ⟨rfl, _, World.drewN_drewN _ _ _⟩ | exact ⟨rfl, _, Eq.trans (World.drewN_drewN _ _ _) (congrArg (World.drewN _) (Nat.add_assoc _ _ _))⟩)) | (go_at_call 37; (with_reducible refine (lexpriorref03_number.calls kj1 (a0.extract 5 7) t207 _ A15.out).mono ?_); rintro e w' ⟨rfl, ⟨nd, rfl⟩⟩; (try first | exact ⟨rfl, _, World.drewN_drewN _ _ _⟩ | exact ⟨rfl, _, Eq.trans (World.drewN_drewN _ _ _) (congrArg (World.drewN _) (Nat.add_assoc _ _ _))⟩)) | (go_at_call 37; (with_reducible refine (lexpriorref03_number.calls kj1 (a0.extract 8 a0.size) t208 _ A17.out).mono ?_); rintro e w' ⟨rfl, ⟨nd, rfl⟩⟩; (try first | exact ⟨rfl, _, World.drewN_drewN _ _ _⟩ | exact ⟨rfl, _, Eq.trans (World.drewN_drewN _ _ _) (congrArg (World.drewN _) (Nat.add_assoc _ _ _))⟩)) | (go_at_call 15; (with_reducible refine (lexpriorref03_Of.calls kj1 t206 t207 t208 t209 t210 _ A18.out).mono ?_); rintro e w' ⟨rfl, ⟨nd, rfl⟩⟩; (try first | exact ⟨rfl, _, World.drewN_drewN _ _ _⟩ | exact ⟨rfl, _, Eq.trans (World.drewN_drewN _ _ _) (congrArg (World.drewN _) (Nat.add_assoc _ _ _))⟩))); try go_wp2_with (first | (go_at_call 37; (with_reducible refine (lexpriorref03_number.calls kj1 (a0.extract 0 4) t206 _ A12.out).mono ?_); rintro e w' ⟨rfl, ⟨nd, rfl⟩⟩; (try first | exact ⟨rfl, _, World.drewN_drewN _ _ _⟩ | exact ⟨rfl, _, Eq.trans (World.drewN_drewN _ _ _) (congrArg (World.drewN _) (Nat.add_assoc _ _ _))⟩)) | (go_at_call 37; (with_reducible refine (lexpriorref03_number.calls kj1 (a0.extract 5 7) t207 _ A15.out).mono ?_); rintro e w' ⟨rfl, ⟨nd, rfl⟩⟩; (try first | exact ⟨rfl, _, World.drewN_drewN _ _ _⟩ | exact ⟨rfl, _, Eq.trans (World.drewN_drewN _ _ _) (congrArg (World.drewN _) (Nat.add_assoc _ _ _))⟩)) | (go_at_call 37; (with_reducible refine (lexpriorref03_number.calls kj1 (a0.extract 8 a0.size) t208 _ A17.out).mono ?_); rintro e w' ⟨rfl, ⟨nd, rfl⟩⟩; (try first | exact ⟨rfl, _, World.drewN_drewN _ _ _⟩ | exact ⟨rfl, _, Eq.trans (World.drewN_drewN _ _ _) (congrArg (World.drewN _) (Nat.add_assoc _ _ _))⟩)) | (go_at_call 15; (with_reducible refine (lexpriorref03_Of.calls kj1 t206 t207 t208 t209 t210 _ A18.out).mono ?_); rintro e w' ⟨rfl, ⟨nd, rfl⟩⟩; (try first | exact ⟨rfl, _, World.drewN_drewN _ _ _⟩ | exact ⟨rfl, _, Eq.trans (World.drewN_drewN _ _ _) (congrArg (World.drewN _) (Nat.add_assoc _ _ _))⟩))))
                  go_ret2
                  exact ⟨by first | rfl | (simp; done) | (simp [*]; done), by repeat (first | exact Drawn0.refl _ | apply Drawn0.step)⟩
                · rw [if_neg c16] at H
                  exact absurd H (by simp)
              · rw [if_neg c14] at H
                exact absurd H (by simp)
            · rw [if_neg c13] at H
              exact absurd H (by simp)
          · rw [if_neg c11] at H
            exact absurd H (by simp)
        · rw [if_neg c10] at H
          exact absurd H (by simp)

end Go.Proofs.YtimohodndbkchaaDoor.P
