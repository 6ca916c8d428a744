/- What is laid is read as it was, what is read was laid so: numbers, texts, digits. -/
import Derived.Test.YtliggofcajihlaaOct2
namespace Go.Proofs.Ytliggofcajihlaa.P
open Go.RowKit Go.Proofs.YtliggofcajihlaaW.PrintWords Go.Proofs.YtliggofcajihlaaW.PrintLast

theorem wrap_u64 (q : Nat) (h : q < 18446744073709551616) : IntKind.u64.wrap (q : Int) = (q : Int) := by rw [IntKind.wrap_u64]; omega
theorem or_high (n c : Nat) (i : Nat) (hn : n < 2 ^ (7 * i)) (h64 : n + c * 2 ^ (7 * i) < 18446744073709551616) :
    Go.bits .or .u64 (n : Int) (IntKind.u64.wrap ((c : Int) * 2 ^ (7 * i))) = ((n + c * 2 ^ (7 * i) : Nat) : Int) := by
  have e : ((c : Int) * 2 ^ (7 * i)) = ((c * 2 ^ (7 * i) : Nat) : Int) := by rw [Int.natCast_mul, Int.natCast_pow]; rfl
  rw [e]
  have hj : c * 2 ^ (7 * i) ||| n = c * 2 ^ (7 * i) + n := nat_join (7 * i) (c * 2 ^ (7 * i)) n (Nat.mul_mod_left _ _) hn
  generalize c * 2 ^ (7 * i) = q at h64 hj ⊢
  rw [wrap_u64 q (by omega), u64_or _ _ (by omega) (by omega) (by omega) (by omega), Int.toNat_natCast, Int.toNat_natCast, Nat.or_comm, hj, Nat.add_comm]
theorem pow7 (i : Nat) : 2 ^ (7 * (i + 1)) = 128 * 2 ^ (7 * i) := by rw [show 7 * (i + 1) = 7 + 7 * i from by omega, Nat.pow_add]
theorem pow9 (i : Nat) (h : 9 ≤ i) : 9223372036854775808 ≤ 2 ^ (7 * i) := Nat.le_trans (by decide) (Nat.pow_le_pow_right (by decide) (show 63 ≤ 7 * i by omega))
theorem ruGo_back (at_ len : Int) (m : Nat) : ∀ (post : List Int) (i acc : Nat), i ≤ 9 → (i = 0 ∨ m ≠ 0) → acc < 2 ^ (7 * i) → acc + m * 2 ^ (7 * i) < 18446744073709551616 →
    ruGo at_ len (vlq m ++ post) i (acc : Int) = (((acc + m * 2 ^ (7 * i) : Nat) : Int), at_ + i + (vlq m).length, 0) := by
  induction m using Nat.strongRecOn with
  | _ m ih =>
    intro post i acc hi hz hacc h64
    by_cases hs : m < 128
    · have h9 : ¬ (i = 9 ∧ 1 < (m : Int)) := by
        rintro ⟨rfl, h⟩
        have : 2 * 2 ^ (7 * 9) ≤ m * 2 ^ (7 * 9) := Nat.mul_le_mul_right _ (by omega)
        have h2 : 2 * 2 ^ (7 * 9) = 18446744073709551616 := by decide
        omega
      have ho := or_high acc m i hacc h64
      have hz0 : ¬ ((m : Int) = 0 ∧ 0 < i) := fun h => by omega
      have h128 : ¬ (128 : Int) ≤ (m : Int) := by omega
      rw [vlq_small hs]
      simp only [List.cons_append, List.nil_append, ruGo, if_neg h9, if_neg h128, if_neg hz0, ho, List.length_cons, List.length_nil]
      rfl
    · have hi8 : i ≤ 8 := by
        rcases Nat.lt_or_ge i 9 with h | h
        · omega
        · exfalso
          have h1 := pow9 i h
          have h2 : 128 * 2 ^ (7 * i) ≤ m * 2 ^ (7 * i) := Nat.mul_le_mul_right _ (by omega)
          omega
      have hmod : m = m % 128 + 128 * (m / 128) := (Nat.mod_add_div m 128).symm
      have hsum : acc + m * 2 ^ (7 * i) = (acc + (m % 128) * 2 ^ (7 * i)) + (m / 128) * 2 ^ (7 * (i + 1)) := by
        rw [pow7]
        conv => lhs; rw [hmod]
        rw [Nat.add_mul, Nat.mul_comm 128 (m / 128), Nat.mul_assoc, Nat.add_assoc]
      have hacc' : acc + (m % 128) * 2 ^ (7 * i) < 2 ^ (7 * (i + 1)) := by
        have : (m % 128) * 2 ^ (7 * i) ≤ 127 * 2 ^ (7 * i) := Nat.mul_le_mul_right _ (by omega)
        rw [pow7]
        omega
      have h9 : ¬ (i = 9 ∧ 1 < ((m % 128 + 128 : Nat) : Int)) := fun h => by omega
      have h128 : (128 : Int) ≤ ((m % 128 + 128 : Nat) : Int) := by omega
      have hand : Go.bits .and .u8 ((m % 128 + 128 : Nat) : Int) 127 = ((m % 128 : Nat) : Int) := by rw [and127_ _ (by omega) (by omega)]; omega
      have ho := or_high acc (m % 128) i hacc (by rw [hsum] at h64; omega)
      rw [vlq_big hs]
      simp only [List.cons_append, ruGo, if_neg h9, if_pos h128, hand, ho, List.length_cons]
      rw [ih (m / 128) (by omega) post (i + 1) _ (by omega) (.inr (by omega)) hacc' (by rw [← hsum]; exact h64), ← hsum]
      simp only [Prod.mk.injEq, true_and, and_true]
      omega
theorem ru_back (n : Nat) (hn : n < 18446744073709551616) (pre post : List Int) : ru (pre ++ vlq n ++ post) pre.length = ((n : Int), (pre.length : Int) + (vlq n).length, 0) := by
  unfold ru
  rw [if_neg (by simp only [List.length_append]; omega), Int.toNat_natCast, List.append_assoc, List.drop_left]
  have := ruGo_back pre.length (pre ++ (vlq n ++ post)).length n post 0 0 (by omega) (.inl rfl) (by decide) (by simpa using hn)
  simpa using this
theorem bytes_of (s : ByteArray) : Bytes (bytesOf s) := by
  intro x hx
  unfold bytesOf at hx
  obtain ⟨b, _, rfl⟩ := List.mem_map.1 hx
  have := b.toNat_lt
  omega
theorem str_of_bytes (s : ByteArray) : strOfNums (bytesOf s) = s := by
  apply ByteArray.ext
  apply Array.toList_inj.1
  rw [strOfNums_data]
  unfold bytesOf
  rw [List.map_map]
  conv => rhs; rw [← List.map_id s.data.toList]
  apply List.map_congr_left
  intro b _
  simp
theorem rt_back (s : ByteArray) (hs : s.size ≤ 1048586) (pre post : List Int) (_hl : pre.length ≤ 9007199254740991) :
    rtOf (pre ++ vlq s.size ++ bytesOf s ++ post) (ru (pre ++ vlq s.size ++ bytesOf s ++ post) pre.length) = some (s, (pre.length : Int) + ((vlq s.size).length + s.size), 0) := by
  have h := ru_back s.size (by omega) pre (bytesOf s ++ post)
  rw [← List.append_assoc] at h
  rw [h]
  unfold rtOf
  have hlb := bytesOf_length s
  have c1 : 0 ≤ (pre.length : Int) + (vlq s.size).length ∧ (pre.length : Int) + (vlq s.size).length ≤ (pre ++ vlq s.size ++ bytesOf s ++ post).length ∧ 0 ≤ (s.size : Int) ∧ (s.size : Int) < 18446744073709551616 := by
    simp only [List.length_append]; omega
  have c2 : ¬ ((pre ++ vlq s.size ++ bytesOf s ++ post).length : Int) - ((pre.length : Int) + (vlq s.size).length) < (s.size : Int) := by
    simp only [List.length_append]; omega
  have e1 : ((pre.length : Int) + (vlq s.size).length + (s.size : Int)).toNat = (pre ++ vlq s.size ++ bytesOf s).length := by simp only [List.length_append]; omega
  have e2 : ((pre.length : Int) + (vlq s.size).length).toNat = (pre ++ vlq s.size).length := by simp only [List.length_append]; omega
  simp only [if_true, if_pos c1, if_neg c2, e1, e2, List.take_left, List.drop_left, str_of_bytes]
  rw [Int.add_assoc]

/-! what is read was laid so -/
theorem ruGo_read (at_ len : Int) : ∀ (l : List Int) (i acc : Nat), Bytes l → i ≤ 9 → acc < 2 ^ (7 * i) → (ruGo at_ len l i (acc : Int)).2.2 = 0 →
    ∃ m : Nat, (i = 0 ∨ m ≠ 0) ∧ acc + m * 2 ^ (7 * i) < 18446744073709551616 ∧ (ruGo at_ len l i (acc : Int)).1 = ((acc + m * 2 ^ (7 * i) : Nat) : Int) ∧
      (ruGo at_ len l i (acc : Int)).2.1 = at_ + i + (vlq m).length ∧ (vlq m).length ≤ l.length ∧ l.take (vlq m).length = vlq m := by
  intro l
  induction l with
  | nil => intro i acc _ _ _ h; simp [ruGo] at h
  | cons c l ih =>
    intro i acc hb hi hacc h
    have hc := hb c List.mem_cons_self
    have hbl : Bytes l := fun y hy => hb y (List.mem_cons_of_mem _ hy)
    obtain ⟨c, rfl⟩ := Int.eq_ofNat_of_zero_le hc.1
    unfold ruGo at h ⊢
    by_cases h9 : i = 9 ∧ 1 < (c : Int)
    · rw [if_pos h9] at h; simp at h
    · simp only [if_neg h9] at h ⊢
      have h63 : (2 : Nat) ^ (7 * 9) = 9223372036854775808 := by decide
      by_cases h128 : (128 : Int) ≤ (c : Int)
      · simp only [if_pos h128] at h ⊢
        have hi8 : i ≤ 8 := by omega
        have hand : Go.bits .and .u8 (c : Int) 127 = ((c % 128 : Nat) : Int) := by rw [and127_ _ (by omega) (by omega)]; omega
        have hle : (c % 128) * 2 ^ (7 * i) ≤ 127 * 2 ^ (7 * i) := Nat.mul_le_mul_right _ (by omega)
        have hp : 2 ^ (7 * (i + 1)) ≤ 2 ^ (7 * 9) := Nat.pow_le_pow_right (by decide) (by omega)
        have hacc' : acc + (c % 128) * 2 ^ (7 * i) < 2 ^ (7 * (i + 1)) := by rw [pow7]; omega
        have ho := or_high acc (c % 128) i hacc (by omega)
        rw [hand, ho] at h ⊢
        obtain ⟨m, hm, h1, h2, h3, h4, h5⟩ := ih (i + 1) _ hbl (by omega) hacc' h
        have hm0 : m ≠ 0 := by omega
        have hsum : acc + (c % 128 + 128 * m) * 2 ^ (7 * i) = (acc + (c % 128) * 2 ^ (7 * i)) + m * 2 ^ (7 * (i + 1)) := by
          rw [pow7, Nat.add_mul, Nat.mul_comm 128 m, Nat.mul_assoc, Nat.add_assoc]
        have hv : vlq (c % 128 + 128 * m) = (c : Int) :: vlq m := by
          rw [vlq_big (by omega), show (c % 128 + 128 * m) % 128 = c % 128 from by omega, show (c % 128 + 128 * m) / 128 = m from by omega]
          congr 1
          omega
        refine ⟨c % 128 + 128 * m, .inr (by omega), by rw [hsum]; exact h1, by rw [hsum]; exact h2, ?_, ?_, ?_⟩
        · rw [h3, hv, List.length_cons]; omega
        · rw [hv, List.length_cons, List.length_cons]; omega
        · rw [hv, List.length_cons, List.take_succ_cons, h5]
      · simp only [if_neg h128] at h ⊢
        by_cases hz : (c : Int) = 0 ∧ 0 < i
        · rw [if_pos hz] at h; simp at h
        · simp only [if_neg hz] at h ⊢
          have h64 : acc + c * 2 ^ (7 * i) < 18446744073709551616 := by
            rcases Nat.lt_or_ge i 9 with hlt | hge
            · have hle : c * 2 ^ (7 * i) ≤ 127 * 2 ^ (7 * i) := Nat.mul_le_mul_right _ (by omega)
              have hp : 2 ^ (7 * i) ≤ 2 ^ (7 * 8) := Nat.pow_le_pow_right (by decide) (by omega)
              have h56 : (2 : Nat) ^ (7 * 8) = 72057594037927936 := by decide
              omega
            · obtain rfl : i = 9 := by omega
              have hle : c * 2 ^ (7 * 9) ≤ 1 * 2 ^ (7 * 9) := Nat.mul_le_mul_right _ (by omega)
              omega
          have ho := or_high acc c i hacc h64
          rw [ho]
          refine ⟨c, by omega, h64, rfl, ?_, ?_, ?_⟩
          · rw [vlq_small (by omega)]; rfl
          · rw [vlq_small (by omega)]; simp
          · rw [vlq_small (by omega)]; rfl
theorem read_back (l : List Int) (hb : Bytes l) (h : (ru l 0).2.2 = 0) :
    ∃ m : Nat, m < 18446744073709551616 ∧ (ru l 0).1 = (m : Int) ∧ 0 ≤ (ru l 0).2.1 ∧ (ru l 0).2.1 ≤ l.length ∧ l.take (ru l 0).2.1.toNat = vlq m := by
  have e : ru l 0 = ruGo 0 l.length l 0 ((0 : Nat) : Int) := by
    unfold ru
    rw [if_neg (by omega)]
    rfl
  rw [e] at h ⊢
  obtain ⟨m, _, h1, h2, h3, h4, h5⟩ := ruGo_read 0 l.length l 0 0 hb (by omega) (by decide) h
  simp only [Nat.mul_zero, Nat.pow_zero, Nat.mul_one, Nat.zero_add] at h1 h2
  have e3 : (0 : Int) + ((0 : Nat) : Int) + ((vlq m).length : Int) = ((vlq m).length : Int) := by omega
  rw [e3] at h3
  exact ⟨m, h1, h2, by rw [h3]; omega, by rw [h3]; omega, by rw [h3, Int.toNat_natCast]; exact h5⟩

/-! digits and back -/
theorem hv_dig (v : Int) (h0 : 0 ≤ v) (h1 : v ≤ 15) : hv (dig v) = (v, true) ∧ 0 ≤ dig v ∧ dig v ≤ 255 := by
  have : ∀ n : Nat, n ≤ 15 → (dig (n : Int) = if n ≤ 9 then (n : Int) + 48 else (n : Int) + 87) := by decide +kernel
  obtain ⟨n, rfl⟩ := Int.eq_ofNat_of_zero_le h0
  rw [this n (by omega)]
  unfold hv
  by_cases h : n ≤ 9
  · simp only [if_pos h, if_pos (show 48 ≤ (n : Int) + 48 ∧ (n : Int) + 48 ≤ 57 by omega), Prod.mk.injEq, and_true]
    omega
  · simp only [if_neg h, if_neg (show ¬ (48 ≤ (n : Int) + 87 ∧ (n : Int) + 87 ≤ 57) by omega), if_pos (show 97 ≤ (n : Int) + 87 ∧ (n : Int) + 87 ≤ 102 by omega), Prod.mk.injEq, and_true]
    omega
theorem hexL_bytes (l : List Int) (hb : Bytes l) : Bytes (hexL l) := by
  induction l with
  | nil => intro x hx; cases hx
  | cons c l ih =>
    have hc := hb c List.mem_cons_self
    intro x hx
    simp only [hexL, List.mem_cons] at hx
    rcases hx with rfl | rfl | hx
    · exact (hv_dig _ (by omega) (by omega)).2
    · exact (hv_dig _ (by omega) (by omega)).2
    · exact ih (fun y hy => hb y (List.mem_cons_of_mem _ hy)) x hx
theorem bt_strOf (l : List Int) (hb : Bytes l) (i : Nat) : bt (strOfNums l) i = rd l i := by
  have h1 := rd_bytesOf (strOfNums l) i
  rw [← h1]
  congr 1
  unfold bytesOf
  rw [strOfNums_data, List.map_map]
  conv => rhs; rw [← List.map_id l]
  apply List.map_congr_left
  intro x hx
  have := hb x hx
  simp only [Function.comp, id]
  rw [UInt8.toNat_ofNat']
  omega
theorem hexL_get (l : List Int) : ∀ i : Nat, i < l.length → rd (hexL l) ((2 * i : Nat) : Int) = dig (rd l i / 16) ∧ rd (hexL l) ((2 * i + 1 : Nat) : Int) = dig (rd l i % 16) := by
  induction l with
  | nil => intro i h; simp at h
  | cons c l ih =>
    intro i hi
    cases i with
    | zero => exact ⟨rfl, rfl⟩
    | succ i =>
      have h := ih i (by simpa using hi)
      unfold rd at h ⊢
      simp only [Int.toNat_natCast, hexL] at h ⊢
      rw [show 2 * (i + 1) = (2 * i + 1) + 1 from by omega]
      exact h
theorem unhex_hex (l : List Int) (hb : Bytes l) (_hl : l.length ≤ 1048576) : uh (strOfNums (hexL l)) = (l, 0, 0) := by
  have hsz : (strOfNums (hexL l)).size = 2 * l.length := by rw [strOfNums_size, hexL_len]
  have hbt : ∀ j : Nat, bt (strOfNums (hexL l)) j = rd (hexL l) j := bt_strOf (hexL l) (hexL_bytes l hb)
  have hgood : ∀ j, j < (strOfNums (hexL l)).size → (hv (bt (strOfNums (hexL l)) j)).2 = true := by
    intro j hj
    rw [hbt]
    have hr := hb.rd_ ((j / 2 : Nat) : Int)
    obtain ⟨g1, g2⟩ := hexL_get l (j / 2) (by omega)
    rcases Nat.mod_two_eq_zero_or_one j with h | h
    · rw [show j = 2 * (j / 2) from by omega, g1, (hv_dig _ (by omega) (by omega)).1]
    · rw [show j = 2 * (j / 2) + 1 from by omega, g2, (hv_dig _ (by omega) (by omega)).1]
  have hout : ∀ i, i ≤ l.length → uhOut (strOfNums (hexL l)) (2 * i) = l.take i := by
    intro i
    induction i with
    | zero => intro _; rfl
    | succ i ih =>
      intro hi
      have hlt : i < l.length := by omega
      have hr := hb.rd_ (i : Int)
      obtain ⟨g1, g2⟩ := hexL_get l i hlt
      rw [show 2 * (i + 1) = 2 * i + 2 from by omega, uhOut_two _ _ (by omega), ih (by omega), hbt, hbt, g1, g2, (hv_dig _ (by omega) (by omega)).1, (hv_dig _ (by omega) (by omega)).1,
        List.take_succ_eq_append_getElem hlt, ← rd_lt hlt]
      simp only
      rw [show rd l i / 16 * 16 + rd l i % 16 = rd l i from by omega]
  unfold uh
  rw [uhBad_none hgood, hsz]
  simp only [if_neg (show ¬ (2 * l.length % 2 = 1) by omega), hout l.length (Nat.le_refl _), List.take_length]
end Go.Proofs.Ytliggofcajihlaa.P
