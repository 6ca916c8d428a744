/- For all bytes, every place and every turn: bytes of which a run of at most 32 bits is turned have another sum, and the same if none is. No condition beyond the form's own. -/
import Derived.Test.YtliggofcajihlaaOct1
import Derived.Test.YtliggofcajihlaaCrcN
namespace Go.Proofs.Ytliggofcajihlaa.Pure
open Go.RowKit Go.Proofs.Ytliggofcajihlaa.P Go.Proofs.YtliggofcajihlaaW.PrintWords Go.Proofs.YtliggofcajihlaaW.PrintLast

theorem bit_u32 (t i : Nat) (ht : t < 2 ^ 32) : Go.bits .and .u32 (shr .u32 (t : Int) (i : Int)) 1 = ((t / 2 ^ i % 2 : Nat) : Int) := by
  have e : shr .u32 (t : Int) (i : Int) = ((t / 2 ^ (min i 32) : Nat) : Int) := by
    unfold shr
    rw [Int.toNat_natCast]
    show (t : Int) / 2 ^ (min i 32) = _
    rw [show (2 : Int) ^ (min i 32) = ((2 ^ (min i 32) : Nat) : Int) from by rw [Int.natCast_pow]; rfl, ← Int.natCast_ediv]
  have hq := Nat.div_le_self t (2 ^ min i 32)
  rw [e]
  clear e
  generalize hqq : t / 2 ^ min i 32 = q at hq ⊢
  rw [u32_and _ _ (by omega) (by omega) (by decide) (by decide), Int.toNat_natCast]
  subst hqq
  have h1 : (t / 2 ^ min i 32) &&& (1 : Int).toNat = t / 2 ^ min i 32 % 2 := Nat.and_two_pow_sub_one_eq_mod _ 1
  rw [h1]
  by_cases hi : i ≤ 32
  · rw [Nat.min_eq_left hi]
  · rw [Nat.min_eq_right (by omega), Nat.div_eq_of_lt ht, Nat.div_eq_of_lt (Nat.lt_of_lt_of_le ht (Nat.pow_le_pow_right (by decide) (by omega)))]
theorem shl_u8 (b : Nat) (h : b < 8) : shl .u8 1 (b : Int) = ((2 ^ b : Nat) : Int) := by
  have : ∀ b : Nat, b < 8 → shl .u8 1 (b : Int) = ((2 ^ b : Nat) : Int) := by decide +kernel
  exact this b h
theorem low_more (t i : Nat) : t % 2 ^ (i + 1) = t % 2 ^ i + 2 ^ i * (t / 2 ^ i % 2) := by
  rw [Nat.pow_succ, Nat.mod_mul]
theorem add_xor (a i : Nat) (h : a < 2 ^ i) : a + 2 ^ i = a ^^^ 2 ^ i := by
  have hd := @Nat.xor_div_two_pow a (2 ^ i) i
  have hm := @Nat.xor_mod_two_pow a (2 ^ i) i
  rw [Nat.div_eq_of_lt h, Nat.div_self (Nat.two_pow_pos i), Nat.zero_xor] at hd
  rw [Nat.mod_eq_of_lt h, Nat.mod_self, Nat.xor_zero] at hm
  have := Nat.div_add_mod (a ^^^ 2 ^ i) (2 ^ i)
  rw [hd, hm] at this
  omega
theorem mul_xor (f a b : Nat) : 2 ^ f * (a ^^^ b) = 2 ^ f * a ^^^ 2 ^ f * b := by
  have := Nat.shiftLeft_xor_distrib (a := a) (b := b) (i := f)
  simpa [Nat.shiftLeft_eq, Nat.mul_comm] using this

theorem w_sum (f i : Nat) (h : f + i ≤ 1125899906842623) : wrap64 ((f : Int) + i) = (f : Int) + i := w64 (by omega) (by omega)
theorem w_succ (i : Nat) (h : i + 1 ≤ 32) : wrap64 ((i : Int) + 1) = ((i + 1 : Nat) : Int) := (w64 (by omega) (by omega)).trans (by omega)
theorem idx_q (f i : Nat) (h : f + i ≤ 1125899906842623) : wrap64 (Int.tdiv ((f : Int) + i) 8) = (((f + i) / 8 : Nat) : Int) := by
  rw [Int.tdiv_eq_ediv_of_nonneg (by omega)]
  exact (w64 (by omega) (by omega)).trans (by omega)
theorem idx_r (f i : Nat) : Int.tmod ((f : Int) + i) 8 = (((f + i) % 8 : Nat) : Int) := by
  rw [Int.tmod_eq_emod_of_nonneg (by omega)]
  omega
theorem turned_l0 (l : List Int) (hb : Bytes l) (hl : l.length ≤ 140737488351232) (f t : Nat) (hf : f < 8 * l.length) (ht : t < 4294967296) (d : Nat) : ∀ (k i : Nat) (m : List Int), Bytes m → m.length = l.length →
    i ≤ 32 → f + i ≤ 8 * l.length → 32 - i = d → 2 * d + 2 < k → numL m = numL l ^^^ 2 ^ f * (t % 2 ^ i) →
    lexpriorlaw01_OctetsTurned.l0 k l (f : Int) (t : Int) m (decide (t % 2 ^ i ≠ 0)) i = some true := by
  have fin : ∀ (k i : Nat) (m : List Int), Bytes m → m.length = l.length → i ≤ 32 → f + i ≤ 8 * l.length → numL m = numL l ^^^ 2 ^ f * (t % 2 ^ i) →
      lexpriorlaw01_OctetsTurned.j2 (k + 1) l (f : Int) (t : Int) m (decide (t % 2 ^ i ≠ 0)) i false = some true := by
    intro k i m hm hlen hi hfi hn
    simp only [lexpriorlaw01_OctetsTurned.j2, if_neg (show ¬ (false = true) from by decide), octets_Sum.f, Option.bind_some]
    have h1 : t % 2 ^ i < 2 ^ i := Nat.mod_lt _ (Nat.two_pow_pos i)
    rw [crc_turned l m hb hm hlen f (t % 2 ^ i) (by omega) (Nat.lt_of_lt_of_le h1 (Nat.pow_le_pow_right (by decide) (by omega))) (Nat.lt_of_lt_of_le h1 (Nat.pow_le_pow_right (by decide) (by omega))) hn]
    simp
  induction d with
  | zero =>
    intro k i m hm hlen hi hfi hd hk hn
    obtain ⟨k, rfl⟩ : ∃ m, k = m + 2 := ⟨k - 2, by omega⟩
    simp only [lexpriorlaw01_OctetsTurned.l0]
    rw [if_neg (by omega)]
    exact fin k i m hm hlen hi hfi hn
  | succ d ih =>
    intro k i m hm hlen hi hfi hd hk hn
    have HN := Lib.hid hn
    clear hn
    obtain ⟨k, rfl⟩ : ∃ m, k = m + 2 := ⟨k - 2, by omega⟩
    simp only [lexpriorlaw01_OctetsTurned.l0]
    rw [if_pos (by omega), w64 (show -9223372036854775808 ≤ (f : Int) + i from by omega) (by omega), w64 (show -9223372036854775808 ≤ 8 * (l.length : Int) from by omega) (by omega)]
    by_cases hlt : f + i < 8 * l.length
    · rw [show decide ((f : Int) + i < 8 * (l.length : Int)) = true from decide_eq_true (by omega)]
      have g0 : (0 : Int) ≤ (i : Int) := by omega
      have g1 : (0 : Int) ≤ (((f + i) / 8 : Nat) : Int) := by omega
      have g2 : (((f + i) / 8 : Nat) : Int) < (m.length : Int) := by omega
      have g3 : (0 : Int) ≤ (((f + i) % 8 : Nat) : Int) := by omega
      have hidx : 8 * ((f + i) / 8) + (f + i) % 8 = f + i := Nat.div_add_mod _ 8
      have hil : (f + i) / 8 < m.length := by omega
      have h8 : (f + i) % 8 < 8 := Nat.mod_lt _ (by decide)
      have o1 : i + 1 ≤ 32 := by omega
      have o2 : f + (i + 1) ≤ 8 * l.length := by omega
      have o3 : 32 - (i + 1) = d := by omega
      have o4 : 2 * d + 2 < k := by omega
      have ob : f + i ≤ 1125899906842623 := by omega
      simp only [lexpriorlaw01_OctetsTurned.j2, if_true, w_sum f i ob, idx_q f i ob, idx_r f i, w_succ i o1, bit_u32 t i (show t < 2 ^ 32 from ht), if_pos g0, if_pos g1, if_pos g2, if_pos g3, Int.toNat_natCast]
      have hlt2 : t % 2 ^ i < 2 ^ i := Nat.mod_lt _ (Nat.two_pow_pos i)
      have hlow := low_more t i
      by_cases hbit : t / 2 ^ i % 2 = 1
      · rw [hbit] at hlow ⊢
        rw [if_pos (show ((1 : Nat) : Int) = 1 from rfl), shl_u8 _ (Nat.mod_lt _ (by decide))]
        rw [Nat.mul_one] at hlow
        have hrd := hm.rd_ (((f + i) / 8 : Nat) : Int)
        have h256 : 2 ^ ((f + i) % 8) < 256 := Nat.lt_of_lt_of_le (Nat.pow_lt_pow_right (by decide) h8) (by decide)
        have hx : Go.bits .xor .u8 (rd m (((f + i) / 8 : Nat) : Int)) ((2 ^ ((f + i) % 8) : Nat) : Int) = (((rd m (((f + i) / 8 : Nat) : Int)).toNat ^^^ 2 ^ ((f + i) % 8) : Nat) : Int) := by
          generalize 2 ^ ((f + i) % 8) = q at h256 ⊢
          have q0 : (0 : Int) ≤ (q : Int) := by omega
          have q1 : (q : Int) < 256 := by omega
          have q2 : rd m (((f + i) / 8 : Nat) : Int) < 256 := by omega
          rw [u8_xor _ _ hrd.1 q2 q0 q1, Int.toNat_natCast]
        rw [hx]
        have hpos := Nat.two_pow_pos i
        have hne : t % 2 ^ (i + 1) ≠ 0 := by rw [hlow]; exact Nat.ne_of_gt (Nat.lt_of_lt_of_le hpos (Nat.le_add_left _ _))
        have hgo := ih k (i + 1) (m.set ((f + i) / 8) (((rd m (((f + i) / 8 : Nat) : Int)).toNat ^^^ 2 ^ ((f + i) % 8) : Nat) : Int)) (fun y hy => ?_) ?_ o1 o2 o3 o4 ?_
        · rw [decide_eq_true hne] at hgo
          exact hgo
        · rcases List.mem_or_eq_of_mem_set hy with h | h
          · exact hm y h
          · subst h
            have h9 : (rd m (((f + i) / 8 : Nat) : Int)).toNat ^^^ 2 ^ ((f + i) % 8) < 2 ^ 8 := Nat.xor_lt_two_pow (by omega) h256
            generalize (rd m (((f + i) / 8 : Nat) : Int)).toNat ^^^ 2 ^ ((f + i) % 8) = q at h9 ⊢
            omega
        · rw [List.length_set]; exact hlen
        · rw [numL_set m _ _ hm hil h8, HN.out, hlow, add_xor _ _ hlt2, mul_xor, Nat.xor_assoc, ← Nat.pow_add, hidx]
      · have hz : t / 2 ^ i % 2 = 0 := by have := Nat.mod_lt (t / 2 ^ i) (show 0 < 2 by decide); omega
        rw [hz] at hlow ⊢
        rw [if_neg (show ¬ ((0 : Nat) : Int) = 1 from by decide)]
        simp only [Nat.mul_zero, Nat.add_zero] at hlow
        have hn := HN.out
        rw [← hlow] at hn ⊢
        exact ih k (i + 1) m hm hlen o1 o2 o3 o4 hn
    · rw [show decide ((f : Int) + i < 8 * (l.length : Int)) = false from decide_eq_false (by omega)]
      exact fin k i m hm hlen hi hfi HN.out
theorem turned_j0 (l : List Int) (hb : Bytes l) (hl : l.length ≤ 140737488351232) (f t : Nat) (hf : f < 8 * l.length) (ht : t < 4294967296) : ∃ K, lexpriorlaw01_OctetsTurned.j0 K l (f : Int) (t : Int) false = some true := by
  obtain ⟨K, hK⟩ := copyB l hl
  refine ⟨(K + 79) + 1, ?_⟩
  have hK' : lexpriorplain_CopyBytes.f (K + 79) l = some l := hK (K + 79) (by omega)
  clear hK
  have hz : t % 2 ^ 0 = 0 := by rw [Nat.pow_zero, Nat.mod_one]
  have hn0 : numL l = numL l ^^^ 2 ^ f * (t % 2 ^ 0) := by rw [hz, Nat.mul_zero, Nat.xor_zero]
  have h9 := turned_l0 l hb hl f t hf ht 32 (K + 79) 0 l hb rfl (by omega) (by omega) (by omega) (by omega) hn0
  rw [hz] at h9
  rw [lexpriorlaw01_OctetsTurned.j0, if_neg (show ¬ (false = true) from by decide), hK', Option.bind_some]
  exact h9
theorem OctetsTurned : lexpriorlaw01_OctetsTurned.Pure := by
  intro l0 a1 a2 hmx hl hw w1 w2
  have hb := bytes_wf hw
  obtain ⟨t, rfl, ht⟩ : ∃ n : Nat, a2 = n ∧ n < 4294967296 := by
    have : 0 ≤ a2 ∧ a2 ≤ 4294967295 := by simpa [Lit.wf, IntKind.min, IntKind.max, IntKind.signed, IntKind.bits] using w2
    exact ⟨a2.toNat, by omega, by omega⟩
  unfold lexpriorlaw01_OctetsTurned.f lexpriorlaw01_alive.f
  simp only [Option.bind_some, if_true]
  rw [w64 (show -9223372036854775808 ≤ 8 * (l0.length : Int) from by omega) (by omega)]
  clear hmx w1 w2 hw
  by_cases h0 : a1 < 0
  · refine ⟨1, ?_⟩
    rw [if_pos h0, lexpriorlaw01_OctetsTurned.j0, if_pos rfl]
  · by_cases h1 : a1 ≥ 8 * (l0.length : Int)
    · refine ⟨1, ?_⟩
      rw [if_neg h0, decide_eq_true h1, lexpriorlaw01_OctetsTurned.j0, if_pos rfl]
    · obtain ⟨f, rfl⟩ := Int.eq_ofNat_of_zero_le (show 0 ≤ a1 from by omega)
      obtain ⟨K, hK⟩ := turned_j0 l0 hb (by omega) f t (by omega) ht
      exact ⟨K, by rw [if_neg h0, decide_eq_false h1]; exact hK⟩

end Go.Proofs.Ytliggofcajihlaa.Pure
