-- Written by lexprint.py, a program of this session's own that runs the kit's print with turned rows. Lean checks it.
import Derived.Test.YtliggofcajihlaaPx0
namespace Go.Proofs.Ytliggofcajihlaa.P
open Go.RowKit Go.Proofs.YtliggofcajihlaaW.PrintWords Go.Proofs.YtliggofcajihlaaW.PrintLast Go.Proofs.YtliggofcajihlaaW.PrintMore
attribute [local go_sem] max2_int min2_int max_two min_two max_three min_three max_four min_four   -- for this text's walks alone
set_option linter.unusedVariables false
set_option linter.unusedSimpArgs false

/-! ### octets_Sum: function 11 -/
def octets_Sum.f (l0 : List Int) : Option Int := some (crcL l0)
def row (k : Nat) : Array Value := ((List.range 16).map fun i => Value.int .u32 (if i < k then tabv i else 0)).toArray
theorem row0 : row 0 = #[.int .u32 0, .int .u32 0, .int .u32 0, .int .u32 0, .int .u32 0, .int .u32 0, .int .u32 0, .int .u32 0, .int .u32 0, .int .u32 0, .int .u32 0, .int .u32 0, .int .u32 0, .int .u32 0, .int .u32 0, .int .u32 0] := rfl
theorem row_at (k i : Nat) (h : i < 16) : (row k)[i]? = some (.int .u32 (if i < k then tabv i else 0)) := by
  unfold row
  simp [List.getElem?_map, List.getElem?_range h]
theorem row_step (k : Nat) (h : k < 16) : (row k).setIfInBounds k (.int .u32 (itr k 4)) = row (k + 1) := by
  apply Array.ext_getElem?
  intro i
  rw [Array.getElem?_setIfInBounds]
  by_cases h1 : k = i
  · subst h1
    rw [if_pos rfl, row_at _ _ h, if_pos (by simp [row]; exact h), if_pos (by omega)]
    rfl
  · rw [if_neg h1]
    by_cases h2 : i < 16
    · rw [row_at _ _ h2, row_at _ _ h2]
      have : (i < k + 1) = (i < k) := by apply propext; omega
      simp only [this]
    · rw [Array.getElem?_eq_none (by simp [row]; omega), Array.getElem?_eq_none (by simp [row]; omega)]

theorem bits_and15 (s : Int) : 0 ≤ Go.bits .and .u32 s 15 ∧ Go.bits .and .u32 s 15 < 16 := by
  simp only [Go.bits]
  have h : (BitVec.ofInt IntKind.u32.bits s &&& BitVec.ofInt IntKind.u32.bits 15).toNat ≤ 15 := by
    rw [BitVec.toNat_and]
    exact Nat.le_trans Nat.and_le_right (by decide)
  rw [IntKind.wrap_u32]
  omega
theorem crcF_snoc (l : List Int) (k : Nat) (h : k < l.length) : crcF (l.take (k + 1)) = crcB (crcF (l.take k)) (rd l k) := by
  unfold crcF rd
  rw [List.take_succ_eq_append_getElem h, List.foldl_append]
  simp [List.getD_eq_getElem?_getD, List.getElem?_eq_getElem h]

theorem cell16 {w : World} {B : Nat} (h : w.heap[B]? = some (.cells (row 16) 52 (0, 0))) (i : Int) (h0 : 0 ≤ i) (h1 : i < 16) : w.cell? ⟨B, i.toNat, none⟩ = some (.int .u32 (tabv i.toNat)) := by
  rw [blk_cell h, row_at _ _ (by omega), if_pos (by omega)]
theorem octets_Sum.calls (A0 : Option Addr) (c0 : Nat) (l0 : List Int) (r : Int) (w : World) (hr0 : Kd.C (Kd.int .u8) w A0 l0.length l0) (hc0 : l0.length ≤ c0) (h : octets_Sum.f l0 = some r) :
    Calls Try.prog 11 #[.slice A0 l0.length c0] w fun e w' => e = .returned (.int .u32 r) ∧ Below w.heap.size w w' := by
  have HE := Lib.hid (Option.some.inj h)
  clear h
  have HR0 := Aside0.mk hr0
  have HC0 := Aside0.mk hc0
  clear hr0 hc0
  go_enter Try.func11, Try.ntmps11
  go_wp2
  go_loopw [9] (fun v9 wr => ∃ k : Nat, k ≤ 16 ∧ v9 = .int .i64 k ∧ Aside0 (wr.heap[w.heap.size]? = some (.cells (row k) 52 (0, 0))) ∧ Aside0 (Below w.heap.size w wr)) (fun v9 _ => 16 - (intOf v9).toNat)
  case atStart => exact ⟨0, by omega, rfl, ⟨by rw [row0]; exact blk_new _ _⟩, ⟨below_alloc (Below.refl _ _) _⟩⟩
  case round =>
    obtain ⟨k, hk, rfl, HBk, HBe⟩ := hrel
    by_cases hlt : k < 16
    · go_wp2
      go_loop [5, 14] (fun v5 v14 => ∃ j : Nat, j ≤ 4 ∧ v14 = .int .i64 j ∧ v5 = .int .u32 (itr k j)) (fun _ v14 => 4 - (intOf v14).toNat)
      case atStart => exact ⟨0, by omega, rfl, rfl⟩
      case round =>
        obtain ⟨j, hj, rfl, rfl⟩ := hrel
        by_cases hjl : j < 4
        · have HS : Hid (itr k (j + 1) = crc1 (itr k j)) := Lib.hid rfl
          by_cases hb : Go.bits .and .u32 (itr k j) 1 = 1
          · have hb' : (Go.bits .and .u32 (itr k j) 1 == 1) = true := beq_iff_eq.2 hb
            have HB := Lib.hid hb
            clear hb
            go_wp2
            go_round
            case rel => exact ⟨j + 1, by omega, by go_num, by rw [HS.out, crc1, if_pos HB.out]⟩
            case measure => simp [intOf]; omega
          · have hb' : (Go.bits .and .u32 (itr k j) 1 == 1) = false := beq_eq_false_iff_ne.2 hb
            have HB := Lib.hid hb
            clear hb
            go_wp2
            go_round
            case rel => exact ⟨j + 1, by omega, by go_num, by rw [HS.out, crc1, if_neg HB.out]⟩
            case measure => simp [intOf]; omega
        · obtain rfl : j = 4 := by omega
          have hcell : wr.cell? ⟨w.heap.size, k, none⟩ = some (.int .u32 0) := by rw [blk_cell HBk.out, row_at _ _ hlt, if_neg (by omega)]
          have hfr := blk_frozen HBk.out k
          go_wp2
          go_roundw
          case rel => exact ⟨k + 1, by omega, by go_num, ⟨by rw [← row_step k hlt]; exact blk_set HBk.out _ _⟩, ⟨below_set HBe.out (Nat.le_refl _)⟩⟩
          case measure => simp [intOf]; omega
    · obtain rfl : k = 16 := by omega
      have hC := Kd.C_below HR0.out HBe.out
      have HCr := Aside0.mk hC
      clear hC
      go_wp2
      go_loop [6, 31] (fun v6 v31 => ∃ n : Nat, n ≤ l0.length ∧ v31 = .int .i64 n ∧ v6 = .int .u32 (crcF (l0.take n))) (fun _ v31 => l0.length - (intOf v31).toNat)
      case atStart => exact ⟨0, by omega, rfl, rfl⟩
      case round =>
        obtain ⟨n, hn, rfl, rfl⟩ := hrel
        by_cases hnl : n < l0.length
        · have hbound : (l0.length : Int) ≤ 9223372036854775807 := by have := HR0.out.2.1; omega
          have HS := Lib.hid (crcF_snoc l0 n hnl)
          obtain ⟨ad, e, hx⟩ := Kd.at_int HCr.out n (by omega) (by omega)
          cases e
          rw [Int.toNat_natCast] at hx
          obtain ⟨a1, a2⟩ := bits_and15 (Go.bits .xor .u32 (crcF (l0.take n)) (rd l0 n % 4294967296))
          obtain ⟨b1, b2⟩ := bits_and15 (Go.bits .xor .u32 (Go.bits .xor .u32 (crcF (l0.take n)) (rd l0 n % 4294967296) / 16) (tabv (Go.bits .and .u32 (Go.bits .xor .u32 (crcF (l0.take n)) (rd l0 n % 4294967296)) 15).toNat))
          have hk1 := cell16 HBk.out _ a1 a2
          have hk2 := cell16 HBk.out _ b1 b2
          go_wp2
          go_round
          case rel => exact ⟨n + 1, by omega, by go_num, by rw [HS.out]; rfl⟩
          case measure => simp [intOf]; omega
        · obtain rfl : n = l0.length := by omega
          rw [List.take_length]
          go_wp2
          go_ret
          exact ⟨by rw [← HE.out]; rfl, HBe.out⟩


/-! ### octets_ReadUint: function 12 -/
def octets_ReadUint.f (l0 : List Int) (a1 : Int) : Option (Int × Int × Int) := if Bytes l0 then some (ru l0 a1) else none
theorem octets_ReadUint.info : (Try.prog.info? 5).map (fun i => (i.zero, i.size, i.bytes)) = some (some (.int .u8 0), 1, 1) := by kernel_rfl
theorem and127 (c : Int) : 0 ≤ Go.bits .and .u8 c 127 ∧ Go.bits .and .u8 c 127 ≤ 255 := by
  simp only [Go.bits]
  rw [IntKind.wrap_u8]
  omega
set_option maxHeartbeats 1000000 in
theorem octets_ReadUint.calls (A0 : Option Addr) (c0 : Nat) (l0 : List Int) (a1 : Int) (r1 : Int) (r2 : Int) (r3 : Int) (w : World) (hr0 : Kd.C (Kd.int .u8) w A0 l0.length l0) (hc0 : l0.length ≤ c0) (h : octets_ReadUint.f l0 a1 = some (r1, r2, r3)) :
    Calls Try.prog 12 #[.slice A0 l0.length c0, .int .i64 a1] w fun e w' => e = .returned (.tuple #[.int .u64 r1, .int .i64 r2, .int .i64 r3]) ∧ Drawn0 w w' := by
  unfold octets_ReadUint.f at h
  by_cases hb : Bytes l0
  · rw [if_pos hb] at h
    have h := Option.some.inj h
    unfold ru at h
    by_cases h0 : a1 < 0
    · rw [if_pos (.inl h0)] at h
      simp only [Prod.mk.injEq] at h
      obtain ⟨rfl, rfl, rfl⟩ := h
      have hd : decide (a1 < 0) = true := decide_eq_true h0
      clear h0 hr0 hb
      go_enter Try.func12, Try.ntmps12
      go_wp2
      go_ret3
      exact ⟨rfl, Drawn0.refl _⟩
    · have h0' : 0 ≤ a1 := by omega
      have hd : decide (a1 < 0) = false := decide_eq_false h0
      by_cases h1 : (l0.length : Int) < a1
      · rw [if_pos (.inr h1)] at h
        simp only [Prod.mk.injEq] at h
        obtain ⟨rfl, rfl, rfl⟩ := h
        have hd1 : decide ((l0.length : Int) < a1) = true := decide_eq_true h1
        clear h0 h1 hr0 hb
        go_enter Try.func12, Try.ntmps12
        go_wp2
        go_ret3
        exact ⟨rfl, Drawn0.refl _⟩
      · rw [if_neg (by omega)] at h
        obtain ⟨a, rfl⟩ := Int.eq_ofNat_of_zero_le h0'
        rw [Int.toNat_natCast] at h
        have hle : a ≤ l0.length := by omega
        have hle' : (a : Int) ≤ (l0.length : Int) := by omega
        have hd1 : decide ((l0.length : Int) < (a : Int)) = false := decide_eq_false h1
        have hd2 : decide (l0.length < a) = false := decide_eq_false (by omega)
        have HB := Lib.hid hb
        have H := Lib.hid h
        have hbound : (l0.length : Int) ≤ 9223372036854775807 := by have := hr0.2.1; omega
        obtain ⟨i08, hi08, _, hsz8, _⟩ := info_parts octets_ReadUint.info
        obtain ⟨A8, hcut8, hA8, hC8⟩ := print_drop_of (P := Try.prog) (Value.int .u8) 0 22 5 .i64 Try.underlying22 hi08 hsz8 A0 c0 l0 a (by omega) hle' hc0
        have hR := Kd.C_of_reads (h1 := fun _ => rfl) (hA8 _ (Kd.reads_of_C hr0))
        rw [Int.toNat_natCast, List.length_drop] at hR
        have HR := Aside0.mk hR
        clear hR
        clear hA8 hC8 hi08 hsz8 hr0 hb h h1 h0
        go_enter Try.func12, Try.ntmps12
        go_wp2
        go_loop [7, 23] (fun v7 v23 => ∃ (i : Nat) (m : Int), i ≤ 9 ∧ i ≤ l0.length - a ∧ v23 = .int .i64 i ∧ v7 = .int .u64 m ∧ Aside0 (ruGo a l0.length ((l0.drop a).drop i) i m = (r1, r2, r3))) (fun _ v23 => 10 - (intOf v23).toNat)
        case atStart => exact ⟨0, 0, by omega, by omega, rfl, rfl, ⟨H.out⟩⟩
        case round =>
          obtain ⟨i, m, hi9, hil, rfl, rfl, HG⟩ := hrel
          by_cases hlt : i < l0.length - a
          · have HG1 := HG.out
            rw [drop_rd _ _ (by rw [List.length_drop]; exact hlt)] at HG1
            obtain ⟨ad, e, hx⟩ := Kd.at_int HR.out i (by omega) (by omega)
            subst e
            rw [Int.toNat_natCast] at hx
            obtain ⟨hc0', hc255⟩ := (HB.out.drop a).rd_ i
            generalize rd (l0.drop a) (i : Int) = c at HG1 hx hc0' hc255
            unfold ruGo at HG1
            clear HG
            by_cases hc1 : i = 9 ∧ 1 < c
            · rw [if_pos hc1] at HG1
              simp only [Prod.mk.injEq] at HG1
              obtain ⟨rfl, rfl, rfl⟩ := HG1
              have h9b : ((i : Int) == 9) = true := beq_iff_eq.2 (by omega)
              have hc1b : decide (1 < c) = true := decide_eq_true hc1.2
              clear hc1
              go_wp2
              go_ret3
              exact ⟨rfl, Drawn0.refl _⟩
            · rw [if_neg hc1] at HG1
              have hsh : (7 * (i : Int)).toNat = 7 * i := by omega
              have HSH := Lib.hid hsh
              clear hsh
              by_cases hc128 : 128 ≤ c
              · rw [if_pos hc128] at HG1
                have h9b : ((i : Int) == 9) = false := beq_eq_false_iff_ne.2 (by omega)
                have hc128b : decide (128 ≤ c) = true := decide_eq_true hc128
                obtain ⟨b0, b1⟩ := and127 c
                have hi8 : i ≤ 8 := by omega
                have HH := Aside0.mk HG1
                clear HG1 hc1
                go_wp2
                go_round
                case rel => exact ⟨i + 1, _, by omega, by omega, by go_num, rfl, by rw [List.drop_drop] at *; exact HH⟩
                case measure => simp [intOf]; omega
              · rw [if_neg hc128] at HG1
                have hc128b : decide (128 ≤ c) = false := decide_eq_false hc128
                by_cases hz : c = 0 ∧ 0 < i
                · rw [if_pos hz] at HG1
                  simp only [Prod.mk.injEq] at HG1
                  obtain ⟨rfl, rfl, rfl⟩ := HG1
                  have hzb : (c == 0) = true := beq_iff_eq.2 hz.1
                  have hc1b : decide (1 < c) = false := decide_eq_false (by omega)
                  have hib : decide (0 < (i : Int)) = true := decide_eq_true (by omega)
                  have hib' : decide (0 < i) = true := decide_eq_true (by omega)
                  clear hz hc1
                  by_cases h9 : i = 9
                  · have h9b : ((i : Int) == 9) = true := beq_iff_eq.2 (by omega)
                    clear h9
                    go_wp2
                    go_ret3
                    exact ⟨rfl, Drawn0.refl _⟩
                  · have h9b : ((i : Int) == 9) = false := beq_eq_false_iff_ne.2 (by omega)
                    clear h9
                    go_wp2
                    go_ret3
                    exact ⟨rfl, Drawn0.refl _⟩
                · rw [if_neg hz] at HG1
                  simp only [Prod.mk.injEq] at HG1
                  obtain ⟨e1, e2, rfl⟩ := HG1
                  have E1 := Lib.hid e1
                  have E2 := Lib.hid e2
                  clear e1 e2
                  have fin : ∀ X Y : Int, X = Go.bits .or .u64 m (IntKind.u64.wrap (c * 2 ^ (7 * i))) → Y = (a : Int) + i + 1 → Ending.returned (.tuple #[.int .u64 X, .int .i64 Y, .int .i64 0]) = .returned (.tuple #[.int .u64 r1, .int .i64 r2, .int .i64 0]) := fun X Y hX hY => by rw [hX, hY, E1.out, E2.out]
                  have FIN := Lib.hid fin
                  clear fin
                  by_cases hcz : c = 0
                  · have hi0 : i = 0 := by omega
                    have hzb : (c == 0) = true := beq_iff_eq.2 hcz
                    have hib : decide (0 < (i : Int)) = false := decide_eq_false (by omega)
                    have hib' : decide (0 < i) = false := decide_eq_false (by omega)
                    have h9b : ((i : Int) == 9) = false := beq_eq_false_iff_ne.2 (by omega)
                    clear hi0 hcz hz hc1
                    go_wp2
                    go_ret3
                    exact ⟨FIN.out _ _ (by rfl) (by rfl), Drawn0.refl _⟩
                  · have hzb : (c == 0) = false := beq_eq_false_iff_ne.2 hcz
                    by_cases h9 : i = 9
                    · have h9b : ((i : Int) == 9) = true := beq_iff_eq.2 (by omega)
                      have hc1b : decide (1 < c) = false := decide_eq_false (by omega)
                      clear h9 hcz hz hc1
                      go_wp2
                      go_ret3
                      exact ⟨FIN.out _ _ (by rfl) (by rfl), Drawn0.refl _⟩
                    · have h9b : ((i : Int) == 9) = false := beq_eq_false_iff_ne.2 (by omega)
                      clear h9 hcz hz hc1
                      go_wp2
                      go_ret3
                      exact ⟨FIN.out _ _ (by rfl) (by rfl), Drawn0.refl _⟩
          · obtain rfl : i = l0.length - a := by omega
            have HG1 := HG.out
            rw [List.drop_eq_nil_of_le (by rw [List.length_drop]; exact Nat.le_refl _)] at HG1
            simp only [ruGo, Prod.mk.injEq] at HG1
            obtain ⟨rfl, rfl, rfl⟩ := HG1
            go_wp2
            go_ret3
            exact ⟨rfl, Drawn0.refl _⟩
  · rw [if_neg hb] at h
    cases h


/-! ### lexpriorlaw01_num: function 17 -/
def lexpriorlaw01_num.f (a0 : Int) : Option (Int) := some a0
set_option maxHeartbeats 8000000 in
set_option maxRecDepth 100000 in
theorem lexpriorlaw01_num.calls (a0 : Int) (r : Int) (w : World) (h : lexpriorlaw01_num.f a0 = some r) :
    Calls Try.prog 17 #[.int .i64 a0] w fun e w' => e = .returned (.int .i64 r) ∧ Drawn0 w w' := by
  have H : (some a0) = some r := h
  clear h
  obtain rfl := Option.some.inj H
  go_enter Try.func17, Try.ntmps17
  go_wp2
  go_ret
  exact ⟨by first | rfl | (simp; done) | (simp [*]; done), by repeat (first | exact Drawn0.refl _ | apply Drawn0.step)⟩

/-! ### octets_Hex: function 25 -/
def octets_Hex.l0 : Nat → List Int → List Int → Int → Int → Option (ByteArray)
  | 0, _, _, _, _ => none
  | k + 1, x3, x10, x11, x12 => if x12 < x11 then (if 0 ≤ x12 then (if x12 < (x10.length : Int) then (if 0 ≤ ((rd x10 x12) / 16) then (if ((rd x10 x12) / 16) < 16 then (if 0 ≤ (Go.bits .and .u8 (rd x10 x12) 15) then (if (Go.bits .and .u8 (rd x10 x12) 15) < 16 then ((some (([bt (⟨#[48, 49, 50, 51, 52, 53, 54, 55, 56, 57, 97, 98, 99, 100, 101, 102]⟩ : ByteArray) ((rd x10 x12) / 16), bt (⟨#[48, 49, 50, 51, 52, 53, 54, 55, 56, 57, 97, 98, 99, 100, 101, 102]⟩ : ByteArray) (Go.bits .and .u8 (rd x10 x12) 15)] : List Int) : List Int)).bind fun y105 => (if x3.length + y105.length < 140737488355328 then (octets_Hex.l0 k (x3 ++ y105) x10 x11 (wrap64 (x12 + 1))) else (none))) else (none)) else (none)) else (none)) else (none)) else (none)) else (none)) else (some (strOfNums x3))
def octets_Hex.f (k : Nat) (l0 : List Int) : Option (ByteArray) := if 0 ≤ (wrap64 (2 * (l0.length : Int))) then (if (wrap64 (2 * (l0.length : Int)) : Int).toNat ≤ 281474976710656 then (octets_Hex.l0 k ([]) l0 (l0.length : Int) 0) else (none)) else (none)
theorem octets_Hex.mono_l : ∀ k, (∀ y0 y1 y2 y3, LeO (octets_Hex.l0 k y0 y1 y2 y3) (octets_Hex.l0 (k + 1) y0 y1 y2 y3))
  | 0 => fun _ _ _ _ r h => by simp [octets_Hex.l0] at h
  | k + 1 => by
    have ih0 := octets_Hex.mono_l k
    · intro y0 y1 y2 y3
      unfold octets_Hex.l0
      repeat' first
      | (with_reducible exact ih0 _ _ _ _)
      | (with_reducible exact LeO.refl _)
      | (with_reducible exact LeO.none _)
      | (with_reducible refine LeO.ite ?_ ?_)
      | (with_reducible refine LeO.bind ?_ (fun _ => ?_))
      | exact ih0 _ _ _ _
      | exact LeO.none _
      | refine LeO.ite ?_ ?_
      | refine LeO.bind ?_ (fun _ => ?_)
theorem octets_Hex.mono : ∀ a0 k, LeO (octets_Hex.f k a0) (octets_Hex.f (k + 1) a0) := by
  intro a0 k
  have ih0 := octets_Hex.mono_l k
  unfold octets_Hex.f
  repeat' first
      | (with_reducible exact ih0 _ _ _ _)
      | (with_reducible exact LeO.refl _)
      | (with_reducible exact LeO.none _)
      | (with_reducible refine LeO.ite ?_ ?_)
      | (with_reducible refine LeO.bind ?_ (fun _ => ?_))
      | exact ih0 _ _ _ _
      | exact LeO.none _
      | refine LeO.ite ?_ ?_
      | refine LeO.bind ?_ (fun _ => ?_)
def octets_Hex.T5 : Bool × List (List Nat × List Nat) := (true, [([], []), ([], []), ([1], [1]), ([2], [2]), ([], []), ([4], [4]), ([5], [5]), ([3, 6], [3, 6]), ([0, 7], [0, 7]), ([8, 8, 0, 1, 2, 3, 4, 5, 6, 7, 8], [0, 8])])
def octets_Hex.B5 : List Nat := [0, 0, 2, 6, 0, 16, 48, 126, 255, 511]
theorem octets_Hex.tab5 : rtab .any (opsOf Try.f25 5) = octets_Hex.T5 := by kernel_rfl
theorem octets_Hex.bits5 : waitsOk octets_Hex.T5.2 octets_Hex.B5 = true := by kernel_rfl
set_option maxHeartbeats 8000000 in
set_option maxRecDepth 100000 in
theorem octets_Hex.calls (k : Nat) (A0 : Option Addr) (c0 : Nat) (l0 : List Int) (r : ByteArray) (w : World) (hr0 : Kd.C (Kd.int .u8) w A0 l0.length l0) (hc0 : l0.length ≤ c0) (h : octets_Hex.f k l0 = some r) :
    Calls Try.prog 25 #[.slice A0 l0.length c0] w fun e w' => e = .returned (.string r) ∧ Below w.heap.size w w' := by
  have HR0 := Aside0.mk hr0
  have HC0 := Aside0.mk hc0
  clear hr0 hc0
  have HB := Aside0.mk (Below.refl w.heap.size w)
  have H : (if 0 ≤ (wrap64 (2 * (l0.length : Int))) then (if (wrap64 (2 * (l0.length : Int)) : Int).toNat ≤ 281474976710656 then (octets_Hex.l0 k ([]) l0 (l0.length : Int) 0) else (none)) else (none)) = some r := h
  clear h
  obtain ⟨ji2, hji2⟩ : ∃ j_ : Int, (wrap64 (2 * (l0.length : Int))) = j_ := ⟨_, rfl⟩
  replace H : (if 0 ≤ (ji2) then (if (ji2 : Int).toNat ≤ 281474976710656 then (octets_Hex.l0 k ([]) l0 (l0.length : Int) 0) else (none)) else (none)) = some r := by first | (rw [hji2] at H; exact H) | (simp only [hji2] at H ⊢; exact H)
  have hji2w : (IntKind.i64.wrap (2 * (l0.length : Int))) = ji2 := (i64_w _).trans hji2
  by_cases c3 : 0 ≤ (ji2)
  · rw [if_pos c3] at H
    have c3b0 := eq_true c3
    have c3b1 : decide (0 ≤ (ji2)) = true := decide_eq_true c3
    clear c3
    by_cases c4 : (ji2 : Int).toNat ≤ 281474976710656
    · rw [if_pos c4] at H
      have c4b0 := eq_true c4
      have c4b1 : decide ((ji2 : Int).toNat ≤ 281474976710656) = true := decide_eq_true c4
      clear c4
      obtain ⟨y101, hy101⟩ : ∃ y_ : List Int, y_ = ([]) := ⟨_, rfl⟩
      replace H : (octets_Hex.l0 k y101 l0 (l0.length : Int) 0) = some r := by first | (rw [hy101]; with_reducible exact H) | (have H2_ := (Option.bind_some _ _).symm.trans H; rw [hy101]; with_reducible exact H2_) | (have H2_ := (Option.bind_some _ _).symm.trans H; with_reducible exact H2_) | with_reducible exact H | (rw [hy101]; exact H) | exact H
      have Ny101 := Aside0.mk hy101
      clear hy101
      have H' := Aside0.mk H
      clear H
      go_enter Try.func25, Try.ntmps25
      go_wp2_with (first | ((with_reducible refine gate_dst (N := 9) rfl ?_); refine Kd.R_makecap (Kd.int .u8) _ 5 rfl (N := 9) rfl 22 _ _ rfl ji2 rfl rfl Try.underlying22 (.int .u8 0) 1 info5 rfl (by decide) (by omega) (ok := fun _ => True) trivial (of_decide_eq_true (by first | (with_reducible assumption) | assumption)) (Nat.le_trans (Nat.mul_le_mul_right _ (of_decide_eq_true (by first | (with_reducible assumption) | assumption) : ji2.toNat ≤ 281474976710656)) (by omega)) (Below.refl _ _) (Nat.le_refl _) ?_; intro v102 w5 ho6 hb hg_ hnew_; clear hg_ hnew_; (first | rw [← Ny101.out] at ho6 | (simp only [Int.reduceToNat] at ho6; rw [← Ny101.out] at ho6)); have n0_ := Aside0.mk (Kd.R_lower ho6 (below_size (by repeat (first | (with_reducible first | exact HB.out | apply below_alloc | apply pw_below_drewN | apply below_drew1) | exact HB.out)))); have n1_ := Aside0.mk (below_step (by repeat (first | (with_reducible first | exact HB.out | apply below_alloc | apply pw_below_drewN | apply below_drew1) | exact HB.out)) hb); clear HB; have HO103 := n0_; have HB := n1_; clear n0_ n1_; clear hb ho6))
      go_loopg [3, 12] k (fun kq v3 v12 w' => ∃ (x3_1 : List Int) (x12_1 : Int), v12 = .int .i64 x12_1 ∧ Aside0 (octets_Hex.l0 kq x3_1 l0 (l0.length : Int) x12_1 = some r) ∧ Aside0 (kq ≤ k) ∧ Aside0 (Kd.R (Kd.int .u8) 5 w' w.heap.size (fun _ => True) v3 x3_1) ∧ Aside0 (Below w.heap.size w w'))
      case atStart => exact ⟨(y101), (0), (by first | rfl | (simp; done) | (simp [*]; done)), H', ⟨Nat.le_refl _⟩, ⟨by (with_reducible repeat (first | apply Kd.R_alloc | apply Kd.R_drewN | apply Kd.R_drew)); exact HO103.out⟩, ⟨by repeat (first | (with_reducible first | exact HB.out | apply below_alloc | apply pw_below_drewN | apply below_drew1) | exact HB.out)⟩⟩
      case round =>
        clear H'
        try clear c2
        try clear p2
        try clear c3
        try clear c3b0
        try clear c3b1
        try clear c4
        try clear c4b0
        try clear c4b1
        try clear p6
        obtain ⟨x3_1, x12_1, rfl, HA, HK1, HO_3, HB⟩ := hrel
        cases gk with
        | zero => exact absurd HA.out (by simp [octets_Hex.l0])
        | succ k1 =>
          have H := HA.out
          clear HA
          simp only [octets_Hex.l0] at H
          by_cases c7 : x12_1 < (l0.length : Int)
          · rw [if_pos c7] at H
            have c7b0 : decide (x12_1 < (l0.length : Int)) = true := decide_eq_true c7
            clear c7
            by_cases c8 : 0 ≤ x12_1
            · rw [if_pos c8] at H
              have c8b0 : decide (0 ≤ x12_1) = true := decide_eq_true c8
              clear c8
              by_cases c9 : x12_1 < (l0.length : Int)
              · rw [if_pos c9] at H
                have c9b0 : decide (x12_1 < (l0.length : Int)) = true := decide_eq_true c9
                clear c9
                obtain ⟨ji10, hji10⟩ : ∃ j_ : Int, ((rd l0 x12_1) / 16) = j_ := ⟨_, rfl⟩
                replace H : (if 0 ≤ (ji10) then (if (ji10) < 16 then (if 0 ≤ (Go.bits .and .u8 (rd l0 x12_1) 15) then (if (Go.bits .and .u8 (rd l0 x12_1) 15) < 16 then ((some (([bt (⟨#[48, 49, 50, 51, 52, 53, 54, 55, 56, 57, 97, 98, 99, 100, 101, 102]⟩ : ByteArray) (ji10), bt (⟨#[48, 49, 50, 51, 52, 53, 54, 55, 56, 57, 97, 98, 99, 100, 101, 102]⟩ : ByteArray) (Go.bits .and .u8 (rd l0 x12_1) 15)] : List Int) : List Int)).bind fun y105 => (if x3_1.length + y105.length < 140737488355328 then (octets_Hex.l0 k1 (x3_1 ++ y105) l0 (l0.length : Int) (wrap64 (x12_1 + 1))) else (none))) else (none)) else (none)) else (none)) else (none)) = some r := by first | (rw [hji10] at H; exact H) | (simp only [hji10] at H ⊢; exact H)
                by_cases c11 : 0 ≤ (ji10)
                · rw [if_pos c11] at H
                  have c11b0 : decide (0 ≤ (ji10)) = true := decide_eq_true c11
                  clear c11
                  by_cases c12 : (ji10) < 16
                  · rw [if_pos c12] at H
                    have c12b0 : decide ((ji10) < 16) = true := decide_eq_true c12
                    clear c12
                    by_cases c14 : 0 ≤ (Go.bits .and .u8 (rd l0 x12_1) 15)
                    · rw [if_pos c14] at H
                      have c14b0 : decide (0 ≤ (Go.bits .and .u8 (rd l0 x12_1) 15)) = true := decide_eq_true c14
                      clear c14
                      by_cases c15 : (Go.bits .and .u8 (rd l0 x12_1) 15) < 16
                      · rw [if_pos c15] at H
                        have c15b0 : decide ((Go.bits .and .u8 (rd l0 x12_1) 15) < 16) = true := decide_eq_true c15
                        clear c15
                        obtain ⟨y105, hy105⟩ : ∃ y_ : List Int, y_ = (([bt (⟨#[48, 49, 50, 51, 52, 53, 54, 55, 56, 57, 97, 98, 99, 100, 101, 102]⟩ : ByteArray) (ji10), bt (⟨#[48, 49, 50, 51, 52, 53, 54, 55, 56, 57, 97, 98, 99, 100, 101, 102]⟩ : ByteArray) (Go.bits .and .u8 (rd l0 x12_1) 15)] : List Int)) := ⟨_, rfl⟩
                        replace H : (if x3_1.length + y105.length < 140737488355328 then (octets_Hex.l0 k1 (x3_1 ++ y105) l0 (l0.length : Int) (wrap64 (x12_1 + 1))) else (none)) = some r := by first | (rw [hy105]; with_reducible exact H) | (have H2_ := (Option.bind_some _ _).symm.trans H; rw [hy105]; with_reducible exact H2_) | (have H2_ := (Option.bind_some _ _).symm.trans H; with_reducible exact H2_) | with_reducible exact H | (rw [hy105]; exact H) | exact H
                        have Ny105 := Aside0.mk hy105
                        clear hy105
                        by_cases c17 : x3_1.length + y105.length < 140737488355328
                        · rw [if_pos c17] at H
                          have LMc17 := Aside0.mk c17
                          clear c17
                          obtain ⟨y108, hy108⟩ : ∃ y_ : List Int, y_ = (x3_1 ++ y105) := ⟨_, rfl⟩
                          replace H : (octets_Hex.l0 k1 y108 l0 (l0.length : Int) (wrap64 (x12_1 + 1))) = some r := by first | (rw [hy108]; with_reducible exact H) | (have H2_ := (Option.bind_some _ _).symm.trans H; rw [hy108]; with_reducible exact H2_) | (have H2_ := (Option.bind_some _ _).symm.trans H; with_reducible exact H2_) | with_reducible exact H | (rw [hy108]; exact H) | exact H
                          have Ny108 := Aside0.mk hy108
                          clear hy108
                          have H' := Aside0.mk H
                          clear H
                          have p104 : 0 ≤ (x12_1 : Int) := of_decide_eq_true (by first | (with_reducible assumption) | assumption)
                          have q104 : x12_1 < (l0.length : Int) := of_decide_eq_true (by first | (with_reducible assumption) | assumption)
                          obtain ⟨ad104, e104, hx104_0⟩ := Kd.at_int HR0.out x12_1 p104 q104
                          cases e104
                          replace hx104_0 := (HB.out.cell (World.block_lt_of_cell? w _ hx104_0)).trans hx104_0
                          replace p104 := eq_true p104
                          replace q104 := eq_true q104
                          try go_wp2
                          have n0_ := Aside0.mk (Kd.R_drew HO_3.out)
                          have n1_ := Aside0.mk (below_drew1 HB.out)
                          clear HO_3
                          clear HB
                          have HO_3 := n0_
                          have HB := n1_
                          clear n0_ n1_
                          have p13 : 0 ≤ ((ji10) : Int) := of_decide_eq_true (by first | (with_reducible assumption) | assumption)
                          have q13 : (ji10) < (16 : Int) := of_decide_eq_true (by first | (with_reducible assumption) | assumption)
                          have hx13 := bt_at (⟨#[48, 49, 50, 51, 52, 53, 54, 55, 56, 57, 97, 98, 99, 100, 101, 102]⟩ : ByteArray) (ji10)
                          replace p13 := eq_true p13
                          replace q13 := eq_true q13
                          have p16 : 0 ≤ ((Go.bits .and .u8 (rd l0 x12_1) 15) : Int) := of_decide_eq_true (by first | (with_reducible assumption) | assumption)
                          have q16 : (Go.bits .and .u8 (rd l0 x12_1) 15) < (16 : Int) := of_decide_eq_true (by first | (with_reducible assumption) | assumption)
                          have hx16 := bt_at (⟨#[48, 49, 50, 51, 52, 53, 54, 55, 56, 57, 97, 98, 99, 100, 101, 102]⟩ : ByteArray) (Go.bits .and .u8 (rd l0 x12_1) 15)
                          replace p16 := eq_true p16
                          replace q16 := eq_true q16
                          refine start_ (n := 10) (S := fun w' => True) (ds := []) #[false, false, false, false, false, false, false, false, false, false] (by kernel_rfl) rfl rfl trivial (fun hHeld => ?_); refine with_tabW octets_Hex.tab5 octets_Hex.bits5 (fun HT_ HW_ => ?_)
                          generalize wr.drew = w18 at HO_3 HB hHeld ⊢
                          refine pure_ (i := 0) (N := some 16) (v := ?_) (a' := ?_) #[true, false, false, false, false, false, false, false, false, false] rfl rfl (any_of HT_.out (by kernel_rfl)) (fun _ _ _ h => h) (Or.inl ⟨by rfl, ?_⟩) ?_ ?_
                          rotate_left
                          · intro w'
                            go_simp
                            with_reducible rfl
                          rotate_left
                          · simp only [Act.put, List.setIfInBounds_toArray, List.set_cons_zero, List.set_cons_succ, i64_w, i32_w]
                            rfl
                          refine pure_ (i := 1) (N := some 17) (v := ?_) (a' := ?_) #[true, true, false, false, false, false, false, false, false, false] rfl rfl (any_of HT_.out (by kernel_rfl)) (fun _ _ _ h => h) (Or.inl ⟨by rfl, ?_⟩) ?_ ?_
                          rotate_left
                          · intro w'
                            go_simp
                            with_reducible rfl
                          rotate_left
                          · simp only [Act.put, List.setIfInBounds_toArray, List.set_cons_zero, List.set_cons_succ, i64_w, i32_w]
                            rfl
                          refine pure_ (i := 2) (N := some 18) (v := ?_) (a' := ?_) #[true, true, true, false, false, false, false, false, false, false] rfl rfl (any_of HT_.out (by kernel_rfl)) (fun _ _ _ h => h) (Or.inl ⟨by rfl, ?_⟩) ?_ ?_
                          rotate_left
                          · intro w'
                            go_simp
                            with_reducible rfl
                          rotate_left
                          · simp only [Act.put, List.setIfInBounds_toArray, List.set_cons_zero, List.set_cons_succ, i64_w, i32_w]
                            rfl
                          refine pure_ (i := 4) (N := some 20) (v := ?_) (a' := ?_) #[true, true, true, false, true, false, false, false, false, false] rfl rfl (any_of HT_.out (by kernel_rfl)) (fun _ _ _ h => h) (Or.inl ⟨by rfl, ?_⟩) ?_ ?_
                          rotate_left
                          · intro w'
                            go_simp
                            with_reducible rfl
                          rotate_left
                          · simp only [Act.put, List.setIfInBounds_toArray, List.set_cons_zero, List.set_cons_succ, i64_w, i32_w]
                            rfl
                          refine pure_ (i := 5) (N := some 21) (v := ?_) (a' := ?_) #[true, true, true, false, true, true, false, false, false, false] rfl rfl (any_of HT_.out (by kernel_rfl)) (fun _ _ _ h => h) (Or.inl ⟨by rfl, ?_⟩) ?_ ?_
                          rotate_left
                          · intro w'
                            go_simp
                            with_reducible rfl
                          rotate_left
                          · simp only [Act.put, List.setIfInBounds_toArray, List.set_cons_zero, List.set_cons_succ, i64_w, i32_w]
                            rfl
                          refine take_ (i := 3) (N := some 19) (v := ?_) (a' := ?_) #[true, true, true, true, true, true, false, false, false, false] rfl rfl (take_ofW HT_.out HW_.out (by kernel_rfl)) (fun _ _ _ h => h) (Or.inl ⟨by rfl, ?_⟩) hHeld ?_ ?_
                          rotate_left
                          · intro w' _
                            go_simp
                            with_reducible rfl
                          rotate_left
                          · simp only [Act.put, List.setIfInBounds_toArray, List.set_cons_zero, List.set_cons_succ, i64_w, i32_w]
                            rfl
                          refine take_ (i := 6) (N := some 22) (v := ?_) (a' := ?_) #[true, true, true, true, true, true, true, false, false, false] rfl rfl (take_ofW HT_.out HW_.out (by kernel_rfl)) (fun _ _ _ h => h) (Or.inl ⟨by rfl, ?_⟩) hHeld ?_ ?_
                          rotate_left
                          · intro w' _
                            go_simp
                            with_reducible rfl
                          rotate_left
                          · simp only [Act.put, List.setIfInBounds_toArray, List.set_cons_zero, List.set_cons_succ, i64_w, i32_w]
                            rfl
                          refine one_ (i := 7) (N := some 23) #[true, true, true, true, true, true, true, true, false, false] rfl rfl (one_of HT_.out (by kernel_rfl)) (by decide) (fun K hK => ?_)
                          refine Kd.R_lit_step (Kd.int .u8) _ 5 ?hg (N := 23) ?hd (xs := ([bt (⟨#[48, 49, 50, 51, 52, 53, 54, 55, 56, 57, 97, 98, 99, 100, 101, 102]⟩ : ByteArray) (ji10), bt (⟨#[48, 49, 50, 51, 52, 53, 54, 55, 56, 57, 97, 98, 99, 100, 101, 102]⟩ : ByteArray) (Go.bits .and .u8 (rd l0 x12_1) 15)] : List Int)) (inner := [.int .u8 (bt (⟨#[48, 49, 50, 51, 52, 53, 54, 55, 56, 57, 97, 98, 99, 100, 101, 102]⟩ : ByteArray) (ji10)), .int .u8 (bt (⟨#[48, 49, 50, 51, 52, 53, 54, 55, 56, 57, 97, 98, 99, 100, 101, 102]⟩ : ByteArray) (Go.bits .and .u8 (rd l0 x12_1) 15))]) (ok := fun _ => True) (okp := fun _ => True) ?hr ?hp (fun _ hk => hk) trivial (Below.refl _ _) (Nat.le_refl _) (by simp) ?_; (case hd => rfl); (case hg => rfl); (case hr => first | (go_simp; done) | (go_simp; rfl)); (case hp => exact (Reps.one (show Kd.M (Kd.int .u8) _ _ _ (bt (⟨#[48, 49, 50, 51, 52, 53, 54, 55, 56, 57, 97, 98, 99, 100, 101, 102]⟩ : ByteArray) (ji10)) [.int .u8 (bt (⟨#[48, 49, 50, 51, 52, 53, 54, 55, 56, 57, 97, 98, 99, 100, 101, 102]⟩ : ByteArray) (ji10))] from rfl) (Reps.one (show Kd.M (Kd.int .u8) _ _ _ (bt (⟨#[48, 49, 50, 51, 52, 53, 54, 55, 56, 57, 97, 98, 99, 100, 101, 102]⟩ : ByteArray) (Go.bits .and .u8 (rd l0 x12_1) 15)) [.int .u8 (bt (⟨#[48, 49, 50, 51, 52, 53, 54, 55, 56, 57, 97, 98, 99, 100, 101, 102]⟩ : ByteArray) (Go.bits .and .u8 (rd l0 x12_1) 15))] from rfl) (Reps.none _ _))))
                          intro v106 w19 ho20 hb hg_ hnew_
                          clear hg_ hnew_
                          (first | rw [← Ny105.out] at ho20 | (simp only [Int.reduceToNat] at ho20; rw [← Ny105.out] at ho20))
                          have n0_ := Aside0.mk (Kd.R_elder' (by (with_reducible repeat (first | apply Kd.R_alloc | apply Kd.R_drewN | apply Kd.R_drew)); exact HO_3.out) (Kd.R_base ho20) hb)
                          have n1_ := Aside0.mk (Kd.R_lower (Kd.R_new' ho20 (Kd.R_lt (by (with_reducible repeat (first | apply Kd.R_alloc | apply Kd.R_drewN | apply Kd.R_drew)); exact HO_3.out))) (below_size (by repeat (first | (with_reducible first | exact HB.out | apply below_alloc | apply pw_below_drewN | apply below_drew1) | exact HB.out))))
                          have n2_ := Aside0.mk (below_step (by repeat (first | (with_reducible first | exact HB.out | apply below_alloc | apply pw_below_drewN | apply below_drew1) | exact HB.out)) hb)
                          clear HO_3
                          clear HB
                          have HO_3 := n0_
                          have HO107 := n1_
                          have HB := n2_
                          clear n0_ n1_ n2_
                          clear hb ho20
                          obtain ⟨Ao22, co22, eo22⟩ := Kd.R_slice HO107.out
                          (first | subst eo22 | (injection eo22 with f1_ f2_ f3_; have f4_ := f1_.symm; have f5_ := f3_.symm; clear f1_ f2_ f3_; subst f4_; subst f5_))
                          refine hK.out _ _ trivial (fun hHeld => ?_)
                          clear hK K
                          refine norm_ (a' := ?_) ?_ ?_
                          rotate_left
                          · show Act.put _ (some 23) _ = _
                            simp only [Act.put, List.setIfInBounds_toArray, List.set_cons_zero, List.set_cons_succ, i64_w, i32_w]
                            rfl
                          refine one_ (i := 8) (N := some 24) #[true, true, true, true, true, true, true, true, true, false] rfl rfl (one_of HT_.out (by kernel_rfl)) (by decide) (fun K hK => ?_)
                          refine Kd.R_append_rows_step (Kd.int .u8) (w0 := w) w.heap.size (by rfl) (.tmp 16) (.tmp 23) 22 5 (.int .u8 0) 1 rfl Try.underlying22 info5 rfl (by decide) (by omega) u3 x3_1 y105 _ _ _ (fun k_ => some k_ ≠ (.slice Ao22 y105.length co22 : Value).ownBlock) (fun _ => False) rfl rfl ?aO ?aR (fun _ _ h => h) (fun _ h => h.elim) ?aF ?aB ?aS ?aL ?_
                          (case aR => repeat (first | exact (Kd.R_reads' HO107.out).2.2 | (with_reducible refine Kd.C_alloc ?_ _) | (with_reducible refine Kd.C_drewN ?_ _) | (with_reducible refine Kd.C_drew ?_)))
                          (case aB => exact (by repeat (first | (with_reducible first | exact HB.out | apply below_alloc | apply pw_below_drewN | apply below_drew1) | exact HB.out)))
                          (case aF => exact (fun k_ hk => Kd.fresh' (Kd.R_lt (by (with_reducible repeat (first | apply Kd.R_alloc | apply Kd.R_drewN | apply Kd.R_drew)); exact HO107.out)) k_ hk))
                          (case aO => exact (by (with_reducible repeat (first | apply Kd.R_alloc | apply Kd.R_drewN | apply Kd.R_drew)); exact Kd.R_mono HO_3.out (fun _ hk => hk.2)))
                          (case aS => exact (below_size (by repeat (first | (with_reducible first | exact HB.out | apply below_alloc | apply pw_below_drewN | apply below_drew1) | exact HB.out))))
                          (case aL => have := LMc17.out; omega)
                          intro v109 w21 ho hb hg hat
                          rw [← Ny108.out] at ho
                          have n0_ := Aside0.mk (Kd.R_after (ok := (fun _ => True)) (by (with_reducible repeat (first | apply Kd.R_alloc | apply Kd.R_drewN | apply Kd.R_drew)); exact HO107.out) hg hat)
                          have n1_ := Aside0.mk (hb)
                          have n2_ := Aside0.mk (ho)
                          clear HO107
                          clear HB
                          clear HO_3
                          have HO107 := n0_
                          have HB := n1_
                          have HO110 := n2_
                          clear n0_ n1_ n2_
                          clear ho hb hg hat
                          refine hK.out _ _ trivial (fun hHeld => ?_)
                          clear hK K
                          refine norm_ (a' := ?_) ?_ ?_
                          rotate_left
                          · show Act.put _ (some 24) _ = _
                            simp only [Act.put, List.setIfInBounds_toArray, List.set_cons_zero, List.set_cons_succ, i64_w, i32_w]
                            rfl
                          refine pure_ (i := 9) (N := some 3) (v := ?_) (a' := ?_) #[true, true, true, true, true, true, true, true, true, true] rfl rfl (any_of HT_.out (by kernel_rfl)) (fun _ _ _ h => h) (Or.inl ⟨by rfl, ?_⟩) ?_ ?_
                          rotate_left
                          · intro w'
                            go_simp
                            with_reducible rfl
                          rotate_left
                          · simp only [Act.put, List.setIfInBounds_toArray, List.set_cons_zero, List.set_cons_succ, i64_w, i32_w]
                            rfl
                          refine done_ (done_of HT_.out (by kernel_rfl)) ?_
                          try go_wp2
                          go_roundg k1
                          case measure => have := HK1.out; omega
                          case rel => exact ⟨(y108), (wrap64 (x12_1 + 1)), (by first | rfl | (simp; done) | (simp [*]; done)), H', ⟨by have := HK1.out; omega⟩, ⟨by (with_reducible repeat (first | apply Kd.R_alloc | apply Kd.R_drewN | apply Kd.R_drew)); exact Kd.R_mono HO110.out (fun _ hk => trivial)⟩, ⟨by repeat (first | (with_reducible first | exact HB.out | apply below_alloc | apply pw_below_drewN | apply below_drew1) | exact HB.out)⟩⟩
                        · rw [if_neg c17] at H
                          exact absurd H (by simp)
                      · rw [if_neg c15] at H
                        exact absurd H (by simp)
                    · rw [if_neg c14] at H
                      exact absurd H (by simp)
                  · rw [if_neg c12] at H
                    exact absurd H (by simp)
                · rw [if_neg c11] at H
                  exact absurd H (by simp)
              · rw [if_neg c9] at H
                exact absurd H (by simp)
            · rw [if_neg c8] at H
              exact absurd H (by simp)
          · rw [if_neg c7] at H
            have c7b0 : decide (x12_1 < (l0.length : Int)) = false := decide_eq_false c7
            clear c7
            obtain rfl := Option.some.inj H
            have hcv23 := own_string (P := Try.prog) Try.underlying22 Try.underlying5 Try.underlying9 (Kd.own_of_R HO_3.out)
            go_wp2
            go_ret
            exact ⟨by first | rfl | (simp [errW_none, errW_some] <;> rfl) | (simp only [← hji2]; first | rfl | (simp [errW_none, errW_some] <;> rfl)) | (simp [*, errW_none, errW_some] <;> rfl), by repeat (first | (with_reducible first | exact HB.out | apply below_alloc | apply pw_below_drewN | apply below_drew1) | exact HB.out)⟩
    · rw [if_neg c4] at H
      exact absurd H (by simp)
  · rw [if_neg c3] at H
    exact absurd H (by simp)

/-! ### lexpriorlaw01_alive: function 9 -/
def lexpriorlaw01_alive.f : Option Bool := some true
theorem lexpriorlaw01_alive.n1 : octets_ReadUint.f [172, 2] 0 = some (300, 2, 0) := by decide +kernel
theorem lexpriorlaw01_alive.n2 : octets_ReadUint.f [128, 0] 0 = some (0, 0, 11) := by decide +kernel
theorem lexpriorlaw01_alive.n3 : octets_Sum.f [49, 50, 51, 52, 53, 54, 55, 56, 57] = some 3808858755 := by decide +kernel
theorem lexpriorlaw01_alive.n4 : octets_Hex.f 3 [0, 255] = some ⟨#[48, 48, 102, 102]⟩ := by decide +kernel
theorem lexpriorlaw01_alive.num (a0 : Int) (w : World) : Calls Try.prog 17 #[.int .i64 a0] w fun e w' => e = .returned (.int .i64 a0) ∧ w = w' := by
  go_enter Try.func17, Try.ntmps17
  go_wp2
  go_ret
  exact ⟨rfl, rfl⟩
theorem lexpriorlaw01_alive.calls (r : Bool) (w : World) (h : lexpriorlaw01_alive.f = some r) :
    Calls Try.prog 9 #[] w fun e w' => e = .returned (.bool r) ∧ Below w.heap.size w w' := by
  obtain rfl := Option.some.inj h
  have kc := fun (w : World) (C : Array Value) (n c : Nat) => Lib.run_convert_bytes_const (P := Try.prog) w 22 5 C n c Try.underlying22 Try.underlying5
  clear h
  go_enter Try.func9, Try.ntmps9
  go_wp2_with fail
  refine (octets_ReadUint.calls _ _ [172, 2] 0 300 2 0 _ (Kd.C_blk (blk_new _ _) rfl rfl (by decide)) (by decide) lexpriorlaw01_alive.n1).mono ?_
  rintro e w1 ⟨rfl, hd1⟩
  have hb1 := hd1.below
  go_wp2_with fail
  refine (octets_ReadUint.calls _ _ [128, 0] 0 0 0 11 _ (Kd.C_blk (cs := #[Value.int .u8 128, Value.int .u8 0]) (blk_new _ _) rfl rfl (by decide)) (by decide) lexpriorlaw01_alive.n2).mono ?_
  rintro e w2 ⟨rfl, hd2⟩
  have hb2 := hd2.below
  go_wp2_with (go_at_call 17; refine (lexpriorlaw01_alive.num _ _).mono ?_; rintro e w' ⟨rfl, rfl⟩)
  refine (octets_Sum.calls _ _ [49, 50, 51, 52, 53, 54, 55, 56, 57] 3808858755 _ (Kd.C_blk (blk_new _ _) rfl rfl (by decide)) (by decide) lexpriorlaw01_alive.n3).mono ?_
  rintro e w3 ⟨rfl, hb3⟩
  go_wp2_with fail
  refine (octets_Hex.calls 3 _ _ [0, 255] ⟨#[48, 48, 102, 102]⟩ _ (Kd.C_blk (cs := #[Value.int .u8 0, Value.int .u8 255]) (blk_new _ _) rfl rfl (by decide)) (by decide) lexpriorlaw01_alive.n4).mono ?_
  rintro e w4 ⟨rfl, hb4⟩
  go_wp2_with fail
  go_ret
  have e1 := below_alloc (Below.refl w.heap.size w) (.cells (nums .u8 [172, 2]).toArray 5)
  have e2 := below_step e1 hb1
  have e3 := below_step (below_alloc e2 _) hb2
  have e4 := below_step (below_alloc e3 _) hb3
  exact ⟨rfl, below_step (below_alloc e4 _) hb4⟩


/-! ### lexpriorplain_CopyBytes: function 10 -/
def lexpriorplain_CopyBytes.l0 : Nat → List Int → List Int → Int → Option (List Int)
  | 0, _, _, _ => none
  | k + 1, x0, x3, x4 => if x4 < (x0.length : Int) then (if 0 ≤ x4 then (if x3.length < 140737488355328 then (lexpriorplain_CopyBytes.l0 k x0 (x3 ++ [rd x0 x4]) (wrap64 (x4 + 1))) else (none)) else (none)) else (some x3)
def lexpriorplain_CopyBytes.f (k : Nat) (l0 : List Int) : Option (List Int) := lexpriorplain_CopyBytes.l0 k l0 ([] : List Int) 0
theorem lexpriorplain_CopyBytes.mono_l : ∀ k, (∀ y0 y1 y2, LeO (lexpriorplain_CopyBytes.l0 k y0 y1 y2) (lexpriorplain_CopyBytes.l0 (k + 1) y0 y1 y2))
  | 0 => fun _ _ _ r h => by simp [lexpriorplain_CopyBytes.l0] at h
  | k + 1 => by
    have ih0 := lexpriorplain_CopyBytes.mono_l k
    · intro y0 y1 y2
      unfold lexpriorplain_CopyBytes.l0
      repeat' first
      | (with_reducible exact ih0 _ _ _)
      | (with_reducible exact LeO.refl _)
      | (with_reducible exact LeO.none _)
      | (with_reducible refine LeO.ite ?_ ?_)
      | (with_reducible refine LeO.bind ?_ (fun _ => ?_))
      | exact ih0 _ _ _
      | exact LeO.none _
      | refine LeO.ite ?_ ?_
      | refine LeO.bind ?_ (fun _ => ?_)
theorem lexpriorplain_CopyBytes.mono : ∀ a0 k, LeO (lexpriorplain_CopyBytes.f k a0) (lexpriorplain_CopyBytes.f (k + 1) a0) := by
  intro a0 k
  have ih0 := lexpriorplain_CopyBytes.mono_l k
  unfold lexpriorplain_CopyBytes.f
  repeat' first
      | (with_reducible exact ih0 _ _ _)
      | (with_reducible exact LeO.refl _)
      | (with_reducible exact LeO.none _)
      | (with_reducible refine LeO.ite ?_ ?_)
      | (with_reducible refine LeO.bind ?_ (fun _ => ?_))
      | exact ih0 _ _ _
      | exact LeO.none _
      | refine LeO.ite ?_ ?_
      | refine LeO.bind ?_ (fun _ => ?_)
set_option maxHeartbeats 8000000 in
set_option maxRecDepth 100000 in
theorem lexpriorplain_CopyBytes.calls (k : Nat) (A0 : Option Addr) (c0 : Nat) (l0 : List Int) (r : List Int) (w : World) (hr0 : Kd.C (Kd.int .u8) w A0 l0.length l0) (hc0 : l0.length ≤ c0) (h : lexpriorplain_CopyBytes.f k l0 = some r) :
    Calls Try.prog 10 #[.slice A0 l0.length c0] w fun e w' => ∃ v0_ : Value, e = .returned (v0_) ∧ Kd.R (Kd.int .u8) 5 w' w.heap.size (fun _ => True) v0_ r ∧ Below w.heap.size w w' := by
  have HR0 := Aside0.mk hr0
  have HC0 := Aside0.mk hc0
  clear hr0 hc0
  have HB := Aside0.mk (Below.refl w.heap.size w)
  have H : (lexpriorplain_CopyBytes.l0 k l0 ([] : List Int) 0) = some r := h
  clear h
  have H' := Aside0.mk H
  clear H
  go_enter Try.func10, Try.ntmps10
  go_wp2
  go_loopg [3, 4] k (fun kq v3 v4 w' => ∃ (x3_1 : List Int) (x4_1 : Int), v4 = .int .i64 x4_1 ∧ Aside0 (lexpriorplain_CopyBytes.l0 kq l0 x3_1 x4_1 = some r) ∧ Aside0 (kq ≤ k) ∧ Aside0 (Kd.R (Kd.int .u8) 5 w' w.heap.size (fun _ => True) v3 x3_1) ∧ Aside0 (Below w.heap.size w w'))
  case atStart => exact ⟨(([] : List Int)), (0), (by first | rfl | (simp; done) | (simp [*]; done)), H', ⟨Nat.le_refl _⟩, ⟨by first | exact Kd.R_nil _ _ _ _ _ | exact Kd.N_nil _ _ _ _ _ | exact Kd.V_nil _ _ _ _ _ | exact Kd.Q_nil _ _ _ _ _ | exact Kd.S_nil _ _ _ _ _⟩, ⟨by repeat (first | (with_reducible first | exact HB.out | apply below_alloc | apply pw_below_drewN | apply below_drew1) | exact HB.out)⟩⟩
  case round =>
    clear H'
    try clear c1
    obtain ⟨x3_1, x4_1, rfl, HA, HK1, HO_3, HB⟩ := hrel
    cases gk with
    | zero => exact absurd HA.out (by simp [lexpriorplain_CopyBytes.l0])
    | succ k1 =>
      have H := HA.out
      clear HA
      simp only [lexpriorplain_CopyBytes.l0] at H
      by_cases c2 : x4_1 < (l0.length : Int)
      · rw [if_pos c2] at H
        have c2b0 : decide (x4_1 < (l0.length : Int)) = true := decide_eq_true c2
        clear c2
        by_cases c3 : 0 ≤ x4_1
        · rw [if_pos c3] at H
          have c3b0 : decide (0 ≤ x4_1) = true := decide_eq_true c3
          clear c3
          by_cases c4 : x3_1.length < 140737488355328
          · rw [if_pos c4] at H
            have LMc4 := Aside0.mk c4
            clear c4
            obtain ⟨y112, hy112⟩ : ∃ y_ : List Int, y_ = (x3_1 ++ [rd l0 x4_1]) := ⟨_, rfl⟩
            replace H : (lexpriorplain_CopyBytes.l0 k1 l0 y112 (wrap64 (x4_1 + 1))) = some r := by first | (rw [hy112]; with_reducible exact H) | (have H2_ := (Option.bind_some _ _).symm.trans H; rw [hy112]; with_reducible exact H2_) | (have H2_ := (Option.bind_some _ _).symm.trans H; with_reducible exact H2_) | with_reducible exact H | (rw [hy112]; exact H) | exact H
            have Ny112 := Aside0.mk hy112
            clear hy112
            have H' := Aside0.mk H
            clear H
            have p111 : 0 ≤ (x4_1 : Int) := of_decide_eq_true (by first | (with_reducible assumption) | assumption)
            have q111 : x4_1 < (l0.length : Int) := of_decide_eq_true (by first | (with_reducible assumption) | assumption)
            obtain ⟨ad111, e111, hx111_0⟩ := Kd.at_int HR0.out x4_1 p111 q111
            cases e111
            replace hx111_0 := (HB.out.cell (World.block_lt_of_cell? w _ hx111_0)).trans hx111_0
            replace p111 := eq_true p111
            replace q111 := eq_true q111
            go_wp2_with (first | ((with_reducible refine gate_builtin (b := .append) (xs := #[.tmp 11, .tmp 16]) rfl ?_); at_builtin; refine Kd.R_append (Kd.int .u8) (w0 := w) w.heap.size rfl (.tmp 11) (.tmp 16) 22 5 (.int .u8 0) 1 rfl Try.underlying22 info5 rfl (by decide) (by omega) u3 x3_1 (rd l0 x4_1) [.int .u8 (rd l0 x4_1)] (fun _ => True) (fun _ => False) rfl rfl ?aP (fun _ hk => hk.elim) ?aF ?aO ?aB ?aS ?aL ?_; (case aP => exact rfl); (case aB => exact (by repeat (first | (with_reducible first | exact HB.out | apply below_alloc | apply pw_below_drewN | apply below_drew1) | exact HB.out))); (case aF => exact (fun _ _ => trivial)); (case aO => exact (by (with_reducible repeat (first | apply Kd.R_alloc | apply Kd.R_drewN | apply Kd.R_drew)); exact HO_3.out)); (case aS => exact (below_size (by repeat (first | (with_reducible first | exact HB.out | apply below_alloc | apply pw_below_drewN | apply below_drew1) | exact HB.out)))); (case aL => have := LMc4.out; omega); intro v113 w5 ho hb hg hat; rw [← Ny112.out] at ho; have n0_ := Aside0.mk (hb); have n1_ := Aside0.mk (ho); clear HB; clear HO_3; have HB := n0_; have HO114 := n1_; clear n0_ n1_; clear ho hb hg hat))
            go_roundg k1
            case measure => have := HK1.out; omega
            case rel => exact ⟨(y112), (wrap64 (x4_1 + 1)), (by first | rfl | (simp; done) | (simp [*]; done)), H', ⟨by have := HK1.out; omega⟩, ⟨by (with_reducible repeat (first | apply Kd.R_alloc | apply Kd.R_drewN | apply Kd.R_drew)); exact HO114.out⟩, ⟨by repeat (first | (with_reducible first | exact HB.out | apply below_alloc | apply pw_below_drewN | apply below_drew1) | exact HB.out)⟩⟩
          · rw [if_neg c4] at H
            exact absurd H (by simp)
        · rw [if_neg c3] at H
          exact absurd H (by simp)
      · rw [if_neg c2] at H
        have c2b0 : decide (x4_1 < (l0.length : Int)) = false := decide_eq_false c2
        clear c2
        obtain rfl := Option.some.inj H
        go_wp2
        go_ret
        exact ⟨_, by first | rfl | (simp [errW_none, errW_some] <;> rfl) | (simp [*, errW_none, errW_some] <;> rfl), by (with_reducible repeat (first | apply Kd.R_alloc | apply Kd.R_drewN | apply Kd.R_drew)); exact HO_3.out, by repeat (first | (with_reducible first | exact HB.out | apply below_alloc | apply pw_below_drewN | apply below_drew1) | exact HB.out)⟩

end Go.Proofs.Ytliggofcajihlaa.P
