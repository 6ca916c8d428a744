/- The lexer's places: a line and a column. -/
import Derived.Test.YtmjneidcdaapdaaPx0
import Derived.Test.YtmjneidcdaapdaaShelf
import Derived.Test.YtmjneidcdaapdaaIter
import Derived.Lib.ConvBytes
namespace Go.Proofs.Ytmjneidcdaapdaa.P
open Go.RowKit Go.Proofs.YtmjneidcdaapdaaW.PrintWords Go.Proofs.YtmjneidcdaapdaaW.PrintLast Go.Proofs.YtmjneidcdaapdaaW.PrintMore
set_option linter.unusedVariables false
set_option linter.unusedSimpArgs false

/-- The place behind the last byte 10 among the first ones. -/
def lbN (s : ByteArray) : Nat → Nat
  | 0 => 0
  | k + 1 => if bt s k = 10 then k + 1 else lbN s k
/-- How often the byte 10 stands among the first ones. -/
def lnN (s : ByteArray) : Nat → Nat
  | 0 => 0
  | k + 1 => if bt s k = 10 then lnN s k + 1 else lnN s k
/-- Does a byte begin no letter? -/
def cntB (c : Int) : Bool := Go.bits .and .u8 c 192 != 128
def colN (s : ByteArray) (a : Nat) : Nat → Nat
  | 0 => 0
  | n + 1 => if cntB (bt s ((a + n : Nat) : Int)) = true then colN s a n + 1 else colN s a n
def plcP (s : ByteArray) (i : Int) : Int × Int × Int :=
  if i < 0 ∨ (s.size : Int) < i then (0, 0, 1) else (lnN s i.toNat + 1, colN s (lbN s i.toNat) (i.toNat - lbN s i.toNat) + 1, 0)
theorem lbN_le (s : ByteArray) : ∀ k, lbN s k ≤ k
  | 0 => Nat.le_refl _
  | k + 1 => by
    unfold lbN
    split
    · exact Nat.le_refl _
    · have := lbN_le s k; omega
theorem lnN_le (s : ByteArray) : ∀ k, lnN s k ≤ k
  | 0 => Nat.le_refl _
  | k + 1 => by
    unfold lnN
    have := lnN_le s k
    split <;> omega
theorem colN_le (s : ByteArray) (a : Nat) : ∀ k, colN s a k ≤ k
  | 0 => Nat.le_refl _
  | k + 1 => by
    unfold colN
    have := colN_le s a k
    split <;> omega
theorem bt_pre (s : ByteArray) (p j : Nat) (hj : j < p) (hp : p ≤ s.size) : bt (s.extract 0 p) j = bt s j := by
  rw [bt_get _ j (by simp; omega), bt_get s j (by omega)]
  simp [ByteArray.getElem_extract]
theorem bt_mid (s : ByteArray) (a p j : Nat) (hj : a + j < p) (hp : p ≤ s.size) : bt (s.extract a p) j = bt s ((a + j : Nat) : Int) := by
  rw [bt_get _ j (by simp; omega), bt_get s (a + j) (by omega)]
  simp [ByteArray.getElem_extract]
theorem count_ln (s : ByteArray) : ∀ (k : Nat), k ≤ s.size → (s.data.toList.take k).count 10 = lnN s k
  | 0, _ => by simp [lnN]
  | k + 1, h => by
    have hk : k < s.size := by omega
    have hl : k < s.data.toList.length := by have := Lib.size_eq s; omega
    rw [List.take_succ_eq_append_getElem hl, List.count_append, count_ln s k (by omega)]
    have he : s.data.toList[k] = s[k]'hk := by
      have := Lib.data_getElem? s k hk
      rw [List.getElem?_eq_getElem hl] at this
      exact Option.some.inj this
    rw [show lnN s (k + 1) = if bt s k = 10 then lnN s k + 1 else lnN s k from rfl, bt_get s k hk, he]
    by_cases e : s[k]'hk = 10
    · rw [e]; simp
    · have : ¬ (((s[k]'hk).toNat : Int) = 10) := fun h => e (UInt8.toNat.inj (by simp; omega))
      rw [if_neg this]
      simp [e]
theorem count_pre (s : ByteArray) (p : Nat) (hp : p ≤ s.size) : Lib.countByte (s.extract 0 p).data.toList 10 = lnN s p := by
  rw [← count_ln s p hp]
  unfold Lib.countByte
  congr 1
  simp
theorem last_lb (s t : ByteArray) : ∀ (k : Nat), k ≤ t.size → (∀ j : Nat, j < k → bt t j = bt s j) → Lib.lastIdx t 10 k + 1 = (lbN s k : Nat)
  | 0, _, _ => rfl
  | k + 1, h, hb => by
    have hk : k < t.size := by omega
    have hd : ((t.data[k]!).toNat : Int) = bt t k := by
      rw [bt_get t k hk, getElem!_pos t.data k (by simpa using hk)]
      rfl
    unfold lbN
    by_cases e : bt s k = 10
    · rw [if_pos e, Lib.lastIdx_hit t 10 k (by rw [hd, hb k (by omega), e])]
      omega
    · rw [if_neg e, Lib.lastIdx_miss t 10 k (by rw [hd, hb k (by omega)]; exact e)]
      exact last_lb s t k (by omega) (fun j hj => hb j (by omega))
theorem last_pre (s : ByteArray) (p : Nat) (hp : p ≤ s.size) : Lib.lastIndexByte (s.extract 0 p) 10 + 1 = (lbN s p : Nat) := by
  have hz : (s.extract 0 p).size = p := by simp; omega
  unfold Lib.lastIndexByte
  rw [hz]
  exact last_lb s _ p (by omega) (fun j hj => bt_pre s p j hj hp)
theorem below_bytes {B : Nat} {w0 w : World} (h : Below B w0 w) (hB : B ≤ w.heap.size) (e : TypeId) (s : ByteArray) : Below B w0 (Lib.bytesWorld w e s) :=
  ⟨h.os, h.tape, h.output, by rw [Lib.bytesWorld_size]; have := h.size; omega, fun i hi => (Lib.bytesWorld_at_old w e s i (by omega)).trans (h.block i hi)⟩
set_option maxHeartbeats 1000000 in
theorem place_any (s : ByteArray) (i : Int) (w : World) (hs : s.size ≤ 140737488351232) :
    Calls Try.prog 10 #[.string s, .int .i64 i] w fun e w' => e = .returned (.tuple #[.int .i64 (plcP s i).1, .int .i64 (plcP s i).2.1, .int .i64 (plcP s i).2.2]) ∧ Below w.heap.size w w' := by
  by_cases hb : i < 0 ∨ (s.size : Int) < i
  · have HR : Hid (plcP s i = (0, 0, 1)) := Lib.hid (by unfold plcP; rw [if_pos hb])
    rcases Int.lt_or_le i 0 with h0 | h0
    · have b1 : decide (i < 0) = true := decide_eq_true h0
      go_enter Try.func10, Try.ntmps10
      go_wp2_with fail
      go_ret3
      rw [HR.out]
      exact ⟨rfl, Below.refl _ _⟩
    · have b1 : decide (i < 0) = false := decide_eq_false (by omega)
      have b2 : (s.size : Int) < i := by omega
      clear hb
      go_enter Try.func10, Try.ntmps10
      go_wp2_with fail
      go_ret3
      rw [HR.out]
      exact ⟨rfl, Below.refl _ _⟩
  · obtain ⟨p, rfl⟩ : ∃ p : Nat, i = p := ⟨i.toNat, by omega⟩
    have hp : p ≤ s.size := by omega
    have hlb := lbN_le s p
    have HR : Hid (plcP s p = ((lnN s p : Int) + 1, (colN s (lbN s p) (p - lbN s p) : Int) + 1, 0)) := Lib.hid (by unfold plcP; rw [if_neg hb]; simp)
    have HC := Lib.hid (count_pre s p hp)
    have HL := Lib.hid (last_pre s p hp)
    have i1 : (0 : Int) ≤ (p : Int) := by omega
    have i2 : (p : Int) ≤ (s.size : Int) := by omega
    have i3 : ¬ (p : Int) < 0 := by omega
    have i4 : ¬ (s.size : Int) < p := by omega
    have l1 := lnN_le s p
    clear hb
    have kc := fun (w : World) (t : ByteArray) => Lib.run_convert_string_bytes (P := Try.prog) w 9 86 5 t Try.underlying9 Try.underlying86 Try.underlying5
    go_enter Try.func10, Try.ntmps10
    go_wp2_with fail
    refine (Try.strings_Count_one _ 10 _).mono ?_
    rintro e w' ⟨rfl, hw⟩
    rw [hw, HC.out]
    clear hw
    go_wp2_with fail
    refine (Try.strings_LastIndexByte _ 10 (by simp; omega) _).mono ?_
    rintro e w' ⟨rfl, hw⟩
    obtain ⟨m, hm⟩ : ∃ m, m = Lib.lastIndexByte (s.extract 0 p) 10 := ⟨_, rfl⟩
    obtain ⟨a, ha⟩ : ∃ a, a = lbN s p := ⟨_, rfl⟩
    have hma : m + 1 = (a : Int) := by rw [hm, HL.out, ha]
    rw [hw, ← hm]
    rw [← ha] at hlb HR
    have i5 : (a : Int) ≤ (p : Int) := by omega
    have HM := Lib.hid hm
    have HA := Lib.hid ha
    clear hw hm ha
    go_wp2_with fail
    have hcell : ∀ j : Nat, a + j < p → (Lib.bytesWorld w 5 (s.extract a p)).cell? ⟨w.heap.size, j, none⟩ = some (.int .u8 (bt s ((a + j : Nat) : Int))) := fun j hj => by
      rw [Lib.bytesWorld_cell w _ _ j (by simp; omega), ← bt_mid s a p j hj hp, bt_get _ j (by simp; omega)]
      congr 3
      have := Lib.data_getElem? (s.extract a p) j (by simp; omega)
      rw [List.getD_eq_getElem?_getD, this]
      rfl
    have HCL := Aside0.mk hcell
    have HB := Aside0.mk (below_bytes (Below.refl w.heap.size w) (Nat.le_refl _) 5 (s.extract a p))
    clear hcell
    generalize Lib.bytesWorld w 5 (s.extract a p) = w1 at HCL HB ⊢
    go_loop [33, 8] (fun i c => ∃ j : Nat, j ≤ p - a ∧ i = .int .i64 j ∧ c = .int .i64 (colN s a j : Nat)) (fun i _ => p - a - (intOf i).toNat)
    case atStart => exact ⟨0, by omega, rfl, rfl⟩
    case round =>
      obtain ⟨j, hj, rfl, rfl⟩ := hrel
      have hcl := colN_le s a j
      by_cases hlt : a + j < p
      · have hc1 := HCL.out j hlt
        have hst : colN s a (j + 1) = if cntB (bt s ((a + j : Nat) : Int)) = true then colN s a j + 1 else colN s a j := rfl
        obtain ⟨c, hc⟩ : ∃ c, c = bt s ((a + j : Nat) : Int) := ⟨_, rfl⟩
        rw [← hc] at hst hc1
        have HST := Lib.hid hst
        clear hst hc
        rcases hv : cntB c with _ | _
        · have hv' : (Go.bits .and .u8 c 192 != 128) = false := hv
          have HE := Lib.hid (HST.out.trans (by rw [hv]; rfl : _ = colN s a j))
          have hv2 : Go.bits .and .u8 c 192 = 128 := by simpa using hv'
          clear hv
          go_wp2_with fail
          go_round
          case rel => exact ⟨j + 1, by omega, by go_num, by rw [HE.out]⟩
          case measure => simp [intOf]; omega
        · have hv' : (Go.bits .and .u8 c 192 != 128) = true := hv
          have HE := Lib.hid (HST.out.trans (by rw [hv]; rfl : _ = colN s a j + 1))
          have hv2 : (Go.bits .and .u8 c 192 == 128) = false := by simpa using hv'
          clear hv
          go_wp2_with fail
          go_round
          case rel => exact ⟨j + 1, by omega, by go_num, by rw [HE.out]; go_num⟩
          case measure => simp [intOf]; omega
      · have ej : j = p - a := by omega
        have EJ := Lib.hid ej
        clear ej
        go_wp2_with fail
        go_ret3
        rw [HR.out, ← EJ.out]
        exact ⟨rfl, HB.out⟩
end Go.Proofs.Ytmjneidcdaapdaa.P
