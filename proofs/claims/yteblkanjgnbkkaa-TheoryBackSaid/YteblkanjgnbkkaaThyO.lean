/- Numbers of 7 bits a byte: what is laid is read as it was, what is read was laid so. -/
import Derived.Test.YteblkanjgnbkkaaPx
import Derived.Laws.BitsAllLaws
namespace Go.Proofs.Yteblkanjgnbkkaa.P
open Go.RowKit Go.Proofs.YteblkanjgnbkkaaW.PrintWords Go.Proofs.YteblkanjgnbkkaaW.PrintLast

theorem w64 {x : Int} (h0 : -9223372036854775808 ≤ x) (h1 : x ≤ 9223372036854775807) : wrap64 x = x := by
  unfold wrap64; omega
theorem rd_lt {l : List Int} {i : Nat} (h : i < l.length) : rd l i = l[i] := by
  unfold rd
  rw [Int.toNat_natCast, List.getD_eq_getElem?_getD, List.getElem?_eq_getElem h]
  rfl

theorem sameB_l0 (l m : List Int) (hlen : l.length = m.length) (hl : l.length ≤ 9223372036854775806) (d : Nat) : ∀ (k i : Nat), i ≤ l.length → l.length - i = d → d < k →
    lexpriorplain_SameBytes.l0 k l m i = some (decide (l.drop i = m.drop i)) := by
  induction d with
  | zero =>
    intro k i h1 h2 hk
    obtain ⟨k, rfl⟩ : ∃ m, k = m + 1 := ⟨k - 1, by omega⟩
    simp only [lexpriorplain_SameBytes.l0]
    rw [if_neg (by omega), List.drop_eq_nil_of_le (by omega), List.drop_eq_nil_of_le (by omega)]
    simp
  | succ d ih =>
    intro k i h1 h2 hk
    obtain ⟨k, rfl⟩ : ∃ m, k = m + 1 := ⟨k - 1, by omega⟩
    have hlt : i < l.length := by omega
    have hlt' : i < m.length := by omega
    simp only [lexpriorplain_SameBytes.l0]
    rw [if_pos (by omega), if_pos (by omega), if_pos (by omega), rd_lt hlt, rd_lt hlt']
    have e1 := List.drop_eq_getElem_cons hlt
    have e2 := List.drop_eq_getElem_cons hlt'
    by_cases e : l[i] = m[i]
    · rw [if_pos e, w64 (by omega) (by omega)]
      have h := ih k (i + 1) (by omega) (by omega) (by omega)
      rw [show ((i + 1 : Nat) : Int) = (i : Int) + 1 from by omega] at h
      rw [h, e1, e2, e]
      exact congrArg some (decide_eq_decide.2 ⟨fun h => by rw [h], fun h => (List.cons.inj h).2⟩)
    · rw [if_neg e, e1, e2]
      exact congrArg some (decide_eq_false (fun h => e (List.cons.inj h).1)).symm
theorem sameB (l m : List Int) (hl : l.length ≤ 9223372036854775806) : Ev (fun k => lexpriorplain_SameBytes.f k l m) (decide (l = m)) :=
  ⟨l.length + 1, fun k hk => by
    show lexpriorplain_SameBytes.f k l m = _
    unfold lexpriorplain_SameBytes.f
    by_cases e : l.length = m.length
    · rw [if_pos (by omega)]
      have h := sameB_l0 l m e hl l.length k 0 (by omega) (by omega) (by omega)
      simpa using h
    · rw [if_neg (by omega)]
      have : ¬ l = m := fun h => e (by rw [h])
      simp [this]⟩

/-! numbers -/
theorem or128 (a : Int) (h0 : 0 ≤ a) (h1 : a < 256) : Go.bits .or .u8 a 128 = a % 128 + 128 := by
  obtain ⟨n, rfl⟩ := Int.eq_ofNat_of_zero_le h0
  rw [u8_or _ _ h0 h1 (by decide) (by decide)]
  have h : ∀ m : Nat, m < 256 → m ||| 128 = m % 128 + 128 := by decide +kernel
  have := h n (by omega)
  rw [show ((n : Int).toNat ||| (128 : Int).toNat) = n ||| 128 from rfl, this]
  omega
theorem and127_ (a : Int) (h0 : 0 ≤ a) (h1 : a < 256) : Go.bits .and .u8 a 127 = a % 128 := by
  obtain ⟨n, rfl⟩ := Int.eq_ofNat_of_zero_le h0
  rw [u8_and _ _ h0 h1 (by decide) (by decide)]
  have : (n : Int).toNat &&& (127 : Int).toNat = n % 128 := Nat.and_two_pow_sub_one_eq_mod n 7
  rw [this]
  omega

/-- a number's bytes -/
def vlq (n : Nat) : List Int := if h : n < 128 then [(n : Int)] else ((n % 128 + 128 : Nat) : Int) :: vlq (n / 128)
  termination_by n
  decreasing_by omega
theorem vlq_small {n : Nat} (h : n < 128) : vlq n = [(n : Int)] := by rw [vlq, dif_pos h]
theorem vlq_big {n : Nat} (h : ¬ n < 128) : vlq n = ((n % 128 + 128 : Nat) : Int) :: vlq (n / 128) := by rw [vlq, dif_neg h]
theorem vlq_len (d : Nat) : ∀ n : Nat, n < 128 ^ (d + 1) → (vlq n).length ≤ d + 1 := by
  induction d with
  | zero =>
    intro n h
    rw [vlq_small (by omega)]
    simp
  | succ d ih =>
    intro n h
    by_cases hs : n < 128
    · rw [vlq_small hs]; simp
    · rw [vlq_big hs, List.length_cons]
      have := ih (n / 128) (by rw [Nat.div_lt_iff_lt_mul (by decide)]; rw [Nat.pow_succ] at h; exact h)
      omega
theorem vlq_len10 (n : Nat) (h : n < 18446744073709551616) : (vlq n).length ≤ 10 := vlq_len 9 n (Nat.lt_of_lt_of_le h (by decide))
theorem vlq_bytes (n : Nat) : Bytes (vlq n) := by
  induction n using Nat.strongRecOn with
  | _ n ih =>
    by_cases hs : n < 128
    · rw [vlq_small hs]
      intro x hx
      simp only [List.mem_singleton] at hx
      omega
    · rw [vlq_big hs]
      intro x hx
      rcases List.mem_cons.1 hx with rfl | hx
      · omega
      · exact ih (n / 128) (by omega) x hx
theorem uint_l0 (d : Nat) : ∀ (n k : Nat) (acc : List Int), n < 128 ^ (d + 1) → acc.length + d < 140737488355327 → d < k →
    octets_Uint.l0 k (n : Int) acc = some (acc ++ vlq n) := by
  induction d with
  | zero =>
    intro n k acc h h2 hk
    obtain ⟨k, rfl⟩ : ∃ m, k = m + 1 := ⟨k - 1, by omega⟩
    simp only [octets_Uint.l0]
    rw [if_neg (by omega), if_pos (by omega), vlq_small (by omega), show (n : Int) % 256 = n from by omega]
  | succ d ih =>
    intro n k acc h h2 hk
    obtain ⟨k, rfl⟩ : ∃ m, k = m + 1 := ⟨k - 1, by omega⟩
    simp only [octets_Uint.l0]
    by_cases hs : n < 128
    · rw [if_neg (by omega), if_pos (by omega), vlq_small (by omega), show (n : Int) % 256 = n from by omega]
    · rw [if_pos (by omega), if_pos (by omega), or128 _ (by omega) (by omega), show (n : Int) / 128 = ((n / 128 : Nat) : Int) from by omega,
        ih (n / 128) k _ (by rw [Nat.div_lt_iff_lt_mul (by decide)]; rw [Nat.pow_succ] at h; exact h) (by simp; omega) (by omega), vlq_big hs, List.append_assoc]
      congr 2
      simp only [List.singleton_append]
      congr 1
      omega
theorem uint (n : Nat) (h : n < 18446744073709551616) : Ev (fun k => octets_Uint.f k (n : Int)) (vlq n) :=
  ⟨10, fun k hk => by
    unfold octets_Uint.f
    exact uint_l0 9 n k [] (Nat.lt_of_lt_of_le h (by decide)) (by decide) (by omega)⟩
theorem wrap_u64 (q : Nat) (h : q < 18446744073709551616) : IntKind.u64.wrap (q : Int) = (q : Int) := by rw [IntKind.wrap_u64]; omega
theorem or_high (n c : Nat) (i : Nat) (hn : n < 2 ^ (7 * i)) (h64 : n + c * 2 ^ (7 * i) < 18446744073709551616) :
    Go.bits .or .u64 (n : Int) (IntKind.u64.wrap ((c : Int) * 2 ^ (7 * i))) = ((n + c * 2 ^ (7 * i) : Nat) : Int) := by
  have e : ((c : Int) * 2 ^ (7 * i)) = ((c * 2 ^ (7 * i) : Nat) : Int) := by rw [Int.natCast_mul, Int.natCast_pow]; rfl
  rw [e]
  have hj : c * 2 ^ (7 * i) ||| n = c * 2 ^ (7 * i) + n := nat_join (7 * i) (c * 2 ^ (7 * i)) n (Nat.mul_mod_left _ _) hn
  generalize c * 2 ^ (7 * i) = q at h64 hj ⊢
  rw [wrap_u64 q (by omega), u64_or _ _ (by omega) (by omega) (by omega) (by omega), Int.toNat_natCast, Int.toNat_natCast, Nat.or_comm, hj, Nat.add_comm]
theorem pow7 (i : Nat) : 2 ^ (7 * (i + 1)) = 128 * 2 ^ (7 * i) := by rw [show 7 * (i + 1) = 7 + 7 * i from by omega, Nat.pow_add]
theorem pow9 (i : Nat) (h : 9 ≤ i) : 9223372036854775808 ≤ 2 ^ (7 * i) := Nat.le_trans (by decide) (Nat.pow_le_pow_right (by decide) (show 63 ≤ 7 * i by omega))
theorem ruGo_back (at_ len : Int) (m : Nat) : ∀ (post : List Int) (i acc : Nat), i ≤ 9 → (i = 0 ∨ m ≠ 0) → acc < 2 ^ (7 * i) → acc + m * 2 ^ (7 * i) < 18446744073709551616 →
    ruGo at_ len (vlq m ++ post) i (acc : Int) = (((acc + m * 2 ^ (7 * i) : Nat) : Int), at_ + i + (vlq m).length, 0) := by
  induction m using Nat.strongRecOn with
  | _ m ih =>
    intro post i acc hi hz hacc h64
    by_cases hs : m < 128
    · have h9 : ¬ (i = 9 ∧ 1 < (m : Int)) := by
        rintro ⟨rfl, h⟩
        have : 2 * 2 ^ (7 * 9) ≤ m * 2 ^ (7 * 9) := Nat.mul_le_mul_right _ (by omega)
        have h2 : 2 * 2 ^ (7 * 9) = 18446744073709551616 := by decide
        omega
      have ho := or_high acc m i hacc h64
      have hz0 : ¬ ((m : Int) = 0 ∧ 0 < i) := fun h => by omega
      have h128 : ¬ (128 : Int) ≤ (m : Int) := by omega
      rw [vlq_small hs]
      simp only [List.cons_append, List.nil_append, ruGo, if_neg h9, if_neg h128, if_neg hz0, ho, List.length_cons, List.length_nil]
      rfl
    · have hi8 : i ≤ 8 := by
        rcases Nat.lt_or_ge i 9 with h | h
        · omega
        · exfalso
          have h1 := pow9 i h
          have h2 : 128 * 2 ^ (7 * i) ≤ m * 2 ^ (7 * i) := Nat.mul_le_mul_right _ (by omega)
          omega
      have hmod : m = m % 128 + 128 * (m / 128) := (Nat.mod_add_div m 128).symm
      have hsum : acc + m * 2 ^ (7 * i) = (acc + (m % 128) * 2 ^ (7 * i)) + (m / 128) * 2 ^ (7 * (i + 1)) := by
        rw [pow7]
        conv => lhs; rw [hmod]
        rw [Nat.add_mul, Nat.mul_comm 128 (m / 128), Nat.mul_assoc, Nat.add_assoc]
      have hacc' : acc + (m % 128) * 2 ^ (7 * i) < 2 ^ (7 * (i + 1)) := by
        have : (m % 128) * 2 ^ (7 * i) ≤ 127 * 2 ^ (7 * i) := Nat.mul_le_mul_right _ (by omega)
        rw [pow7]
        omega
      have h9 : ¬ (i = 9 ∧ 1 < ((m % 128 + 128 : Nat) : Int)) := fun h => by omega
      have h128 : (128 : Int) ≤ ((m % 128 + 128 : Nat) : Int) := by omega
      have hand : Go.bits .and .u8 ((m % 128 + 128 : Nat) : Int) 127 = ((m % 128 : Nat) : Int) := by rw [and127_ _ (by omega) (by omega)]; omega
      have ho := or_high acc (m % 128) i hacc (by rw [hsum] at h64; omega)
      rw [vlq_big hs]
      simp only [List.cons_append, ruGo, if_neg h9, if_pos h128, hand, ho, List.length_cons]
      rw [ih (m / 128) (by omega) post (i + 1) _ (by omega) (.inr (by omega)) hacc' (by rw [← hsum]; exact h64), ← hsum]
      simp only [Prod.mk.injEq, true_and, and_true]
      omega
theorem ru_back (n : Nat) (hn : n < 18446744073709551616) (pre post : List Int) : ru (pre ++ vlq n ++ post) pre.length = ((n : Int), (pre.length : Int) + (vlq n).length, 0) := by
  unfold ru
  rw [if_neg (by simp only [List.length_append]; omega), Int.toNat_natCast, List.append_assoc, List.drop_left]
  have := ruGo_back pre.length (pre ++ (vlq n ++ post)).length n post 0 0 (by omega) (.inl rfl) (by decide) (by simpa using hn)
  simpa using this
/-! what is read was laid so -/
theorem ruGo_read (at_ len : Int) : ∀ (l : List Int) (i acc : Nat), Bytes l → i ≤ 9 → acc < 2 ^ (7 * i) → (ruGo at_ len l i (acc : Int)).2.2 = 0 →
    ∃ m : Nat, (i = 0 ∨ m ≠ 0) ∧ acc + m * 2 ^ (7 * i) < 18446744073709551616 ∧ (ruGo at_ len l i (acc : Int)).1 = ((acc + m * 2 ^ (7 * i) : Nat) : Int) ∧
      (ruGo at_ len l i (acc : Int)).2.1 = at_ + i + (vlq m).length ∧ (vlq m).length ≤ l.length ∧ l.take (vlq m).length = vlq m := by
  intro l
  induction l with
  | nil => intro i acc _ _ _ h; simp [ruGo] at h
  | cons c l ih =>
    intro i acc hb hi hacc h
    have hc := hb c List.mem_cons_self
    have hbl : Bytes l := fun y hy => hb y (List.mem_cons_of_mem _ hy)
    obtain ⟨c, rfl⟩ := Int.eq_ofNat_of_zero_le hc.1
    unfold ruGo at h ⊢
    by_cases h9 : i = 9 ∧ 1 < (c : Int)
    · rw [if_pos h9] at h; simp at h
    · simp only [if_neg h9] at h ⊢
      have h63 : (2 : Nat) ^ (7 * 9) = 9223372036854775808 := by decide
      by_cases h128 : (128 : Int) ≤ (c : Int)
      · simp only [if_pos h128] at h ⊢
        have hi8 : i ≤ 8 := by omega
        have hand : Go.bits .and .u8 (c : Int) 127 = ((c % 128 : Nat) : Int) := by rw [and127_ _ (by omega) (by omega)]; omega
        have hle : (c % 128) * 2 ^ (7 * i) ≤ 127 * 2 ^ (7 * i) := Nat.mul_le_mul_right _ (by omega)
        have hp : 2 ^ (7 * (i + 1)) ≤ 2 ^ (7 * 9) := Nat.pow_le_pow_right (by decide) (by omega)
        have hacc' : acc + (c % 128) * 2 ^ (7 * i) < 2 ^ (7 * (i + 1)) := by rw [pow7]; omega
        have ho := or_high acc (c % 128) i hacc (by omega)
        rw [hand, ho] at h ⊢
        obtain ⟨m, hm, h1, h2, h3, h4, h5⟩ := ih (i + 1) _ hbl (by omega) hacc' h
        have hm0 : m ≠ 0 := by omega
        have hsum : acc + (c % 128 + 128 * m) * 2 ^ (7 * i) = (acc + (c % 128) * 2 ^ (7 * i)) + m * 2 ^ (7 * (i + 1)) := by
          rw [pow7, Nat.add_mul, Nat.mul_comm 128 m, Nat.mul_assoc, Nat.add_assoc]
        have hv : vlq (c % 128 + 128 * m) = (c : Int) :: vlq m := by
          rw [vlq_big (by omega), show (c % 128 + 128 * m) % 128 = c % 128 from by omega, show (c % 128 + 128 * m) / 128 = m from by omega]
          congr 1
          omega
        refine ⟨c % 128 + 128 * m, .inr (by omega), by rw [hsum]; exact h1, by rw [hsum]; exact h2, ?_, ?_, ?_⟩
        · rw [h3, hv, List.length_cons]; omega
        · rw [hv, List.length_cons, List.length_cons]; omega
        · rw [hv, List.length_cons, List.take_succ_cons, h5]
      · simp only [if_neg h128] at h ⊢
        by_cases hz : (c : Int) = 0 ∧ 0 < i
        · rw [if_pos hz] at h; simp at h
        · simp only [if_neg hz] at h ⊢
          have h64 : acc + c * 2 ^ (7 * i) < 18446744073709551616 := by
            rcases Nat.lt_or_ge i 9 with hlt | hge
            · have hle : c * 2 ^ (7 * i) ≤ 127 * 2 ^ (7 * i) := Nat.mul_le_mul_right _ (by omega)
              have hp : 2 ^ (7 * i) ≤ 2 ^ (7 * 8) := Nat.pow_le_pow_right (by decide) (by omega)
              have h56 : (2 : Nat) ^ (7 * 8) = 72057594037927936 := by decide
              omega
            · obtain rfl : i = 9 := by omega
              have hle : c * 2 ^ (7 * 9) ≤ 1 * 2 ^ (7 * 9) := Nat.mul_le_mul_right _ (by omega)
              omega
          have ho := or_high acc c i hacc h64
          rw [ho]
          refine ⟨c, by omega, h64, rfl, ?_, ?_, ?_⟩
          · rw [vlq_small (by omega)]; rfl
          · rw [vlq_small (by omega)]; simp
          · rw [vlq_small (by omega)]; rfl
end Go.Proofs.Yteblkanjgnbkkaa.P
