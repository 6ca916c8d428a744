/- The plain law of WireTurned: bytes that are taken have one sum over all, so none of them is a turned other. -/
import Derived.Test.YtccoeecladhfmaaWir3
import Derived.Test.YtccoeecladhfmaaCrcN
namespace Go.Proofs.Ytccoeecladhfmaa.Pure
open Go.RowKit Go.Proofs.Ytccoeecladhfmaa.P Go.Proofs.YtccoeecladhfmaaW.PrintWords Go.Proofs.YtccoeecladhfmaaW.PrintLast

theorem bit_u32 (t i : Nat) (ht : t < 2 ^ 32) : Go.bits .and .u32 (shr .u32 (t : Int) (i : Int)) 1 = ((t / 2 ^ i % 2 : Nat) : Int) := by
  have e : shr .u32 (t : Int) (i : Int) = ((t / 2 ^ (min i 32) : Nat) : Int) := by
    unfold shr
    rw [Int.toNat_natCast]
    show (t : Int) / 2 ^ (min i 32) = _
    rw [show (2 : Int) ^ (min i 32) = ((2 ^ (min i 32) : Nat) : Int) from by rw [Int.natCast_pow]; rfl, ← Int.natCast_ediv]
  have hq := Nat.div_le_self t (2 ^ min i 32)
  rw [e]
  clear e
  generalize hqq : t / 2 ^ min i 32 = q at hq ⊢
  rw [u32_and _ _ (by omega) (by omega) (by decide) (by decide), Int.toNat_natCast]
  subst hqq
  have h1 : (t / 2 ^ min i 32) &&& (1 : Int).toNat = t / 2 ^ min i 32 % 2 := Nat.and_two_pow_sub_one_eq_mod _ 1
  rw [h1]
  by_cases hi : i ≤ 32
  · rw [Nat.min_eq_left hi]
  · rw [Nat.min_eq_right (by omega), Nat.div_eq_of_lt ht, Nat.div_eq_of_lt (Nat.lt_of_lt_of_le ht (Nat.pow_le_pow_right (by decide) (by omega)))]
theorem shl_u8 (b : Nat) (h : b < 8) : shl .u8 1 (b : Int) = ((2 ^ b : Nat) : Int) := by
  have : ∀ b : Nat, b < 8 → shl .u8 1 (b : Int) = ((2 ^ b : Nat) : Int) := by decide +kernel
  exact this b h
theorem low_more (t i : Nat) : t % 2 ^ (i + 1) = t % 2 ^ i + 2 ^ i * (t / 2 ^ i % 2) := by
  rw [Nat.pow_succ, Nat.mod_mul]
theorem add_xor (a i : Nat) (h : a < 2 ^ i) : a + 2 ^ i = a ^^^ 2 ^ i := by
  have hd := @Nat.xor_div_two_pow a (2 ^ i) i
  have hm := @Nat.xor_mod_two_pow a (2 ^ i) i
  rw [Nat.div_eq_of_lt h, Nat.div_self (Nat.two_pow_pos i), Nat.zero_xor] at hd
  rw [Nat.mod_eq_of_lt h, Nat.mod_self, Nat.xor_zero] at hm
  have := Nat.div_add_mod (a ^^^ 2 ^ i) (2 ^ i)
  rw [hd, hm] at this
  omega
theorem mul_xor (f a b : Nat) : 2 ^ f * (a ^^^ b) = 2 ^ f * a ^^^ 2 ^ f * b := by
  have := Nat.shiftLeft_xor_distrib (a := a) (b := b) (i := f)
  simpa [Nat.shiftLeft_eq, Nat.mul_comm] using this

theorem w_sum (f i : Nat) (h : f + i ≤ 1125899906842623) : wrap64 ((f : Int) + i) = (f : Int) + i := w64 (by omega) (by omega)
theorem w_succ (i : Nat) (h : i + 1 ≤ 32) : wrap64 ((i : Int) + 1) = ((i + 1 : Nat) : Int) := (w64 (by omega) (by omega)).trans (by omega)
theorem idx_q (f i : Nat) (h : f + i ≤ 1125899906842623) : wrap64 (Int.tdiv ((f : Int) + i) 8) = (((f + i) / 8 : Nat) : Int) := by
  rw [Int.tdiv_eq_ediv_of_nonneg (by omega)]
  exact (w64 (by omega) (by omega)).trans (by omega)
theorem idx_r (f i : Nat) : Int.tmod ((f : Int) + i) 8 = (((f + i) % 8 : Nat) : Int) := by
  rw [Int.tmod_eq_emod_of_nonneg (by omega)]
  omega

theorem numL_lit (c : Nat) (h : c < 2 ^ 32) : numL (litL (c : Int)) = c := by
  show numL [(c : Int) % 256, (c : Int) / 256 % 256, (c : Int) / 65536 % 256, (c : Int) / 16777216 % 256] = c
  simp only [numL]
  omega
/-- bytes behind which their sum lies have one sum -/
theorem residue (x : List Int) (hx : Bytes x) : crcL (x ++ litL (crcL x)) = Go.bits .xor .u32 4294967295 ((cR 32 4294967295 : Nat) : Int) := by
  have hs := G_lt (8 * x.length) (numL x) 4294967295 (by decide)
  have hc := crcL_nat x hx
  have hf : x.foldl crcB ((4294967295 : Nat) : Int) = (G (8 * x.length) (numL x) 4294967295 : Nat) := crcF_nat x 4294967295 hx (by decide)
  generalize G (8 * x.length) (numL x) 4294967295 = s at hs hc hf
  have hc32 : 4294967295 ^^^ s < 2 ^ 32 := Nat.xor_lt_two_pow (by decide) hs
  have h2 := crcF_nat (litL (crcL x)) s (lit_bytes _) hs
  have hn : numL (litL (crcL x)) = 4294967295 ^^^ s := by rw [hc]; exact numL_lit _ hc32
  have hll : (litL (crcL x)).length = 4 := rfl
  rw [hn, hll] at h2
  have h3 := G_low 32 0 (4294967295 ^^^ s) 0 s hc32
  rw [Nat.mul_zero, Nat.add_zero] at h3
  have h4 : s ^^^ (4294967295 ^^^ s) = 4294967295 := by rw [Nat.xor_comm 4294967295 s, ← Nat.xor_assoc, Nat.xor_self, Nat.zero_xor]
  rw [h4] at h3
  have h5 : G (8 * 4) (4294967295 ^^^ s) s = cR 32 4294967295 := h3
  rw [h5] at h2
  show Go.bits .xor .u32 4294967295 (crcF (x ++ litL (crcL x))) = _
  have h6 : crcF (x ++ litL (crcL x)) = ((cR 32 4294967295 : Nat) : Int) := by
    show (x ++ litL (crcL x)).foldl crcB ((4294967295 : Nat) : Int) = _
    rw [List.foldl_append, hf, h2]
  rw [h6]
theorem refused (l : List _) (hf : fine l) (m : List Int) (hm : Bytes m) (hlen : m.length = (encP l).length) (f t : Nat) (hfl : f ≤ 8 * (encP l).length) (ht : t < 2 ^ (8 * (encP l).length - f)) (h32 : t < 2 ^ 32) (h0 : t ≠ 0)
    (hn : numL m = numL (encP l) ^^^ 2 ^ f * t) : ∃ e p, decodeF m = ([], e, p) ∧ e ≠ 0 := by
  rcases hs : stepsF m with ⟨e, p⟩ | ss
  · exact ⟨e, p, by unfold decodeF; rw [hs], steps_er hs⟩
  · exfalso
    obtain ⟨hf2, hme⟩ := steps_rd hm hs
    have hturn := crc_turned (encP l) m (encP_bytes hf) hm hlen f t hfl ht h32 hn
    have r1 := residue (tP l) (tP_bytes hf.2)
    have r2 := residue (tP ss) (tP_bytes hf2.2)
    have e1 : crcL (encP l) = crcL m := by rw [hme]; exact r1.trans r2.symm
    rw [e1, decide_eq_true h0] at hturn
    simp at hturn
theorem turned_l0 (l : List _) (hf : fine l) (f t : Nat) (hfl : f < 8 * (encP l).length) (hL : (encP l).length ≤ 140737488351232) (ht : t < 4294967296) (K : Nat) (hK : ∀ k, K ≤ k → lexpriorplain_SameSteps.f k l l = some true) (d : Nat) : ∀ (k i : Nat) (m : List Int), Bytes m → m.length = (encP l).length →
    i ≤ 32 → f + i ≤ 8 * (encP l).length → 32 - i = d → K + 2 * d + 2 < k → numL m = numL (encP l) ^^^ 2 ^ f * (t % 2 ^ i) → (t % 2 ^ i = 0 → m = encP l) →
    lexpriorlaw21_WireTurned.l0 k l (f : Int) (t : Int) m (decide (t % 2 ^ i ≠ 0)) i = some true := by
  have fin : ∀ (k i : Nat) (m : List Int), K ≤ k → Bytes m → m.length = (encP l).length → i ≤ 32 → f + i ≤ 8 * (encP l).length → numL m = numL (encP l) ^^^ 2 ^ f * (t % 2 ^ i) → (t % 2 ^ i = 0 → m = encP l) →
      lexpriorlaw21_WireTurned.j2 (k + 1) l (f : Int) (t : Int) m (decide (t % 2 ^ i ≠ 0)) i false = some true := by
    intro k i m hk hm hlen hi hfi hn hz
    have hd : wire_Decode.f m = some (decodeF m) := by unfold wire_Decode.f; rw [if_pos hm]
    simp only [lexpriorlaw21_WireTurned.j2, if_neg (show ¬ (false = true) from by decide), hd, Option.bind_some, lexpriorlaw21_num.f]
    have h1 : t % 2 ^ i < 2 ^ i := Nat.mod_lt _ (Nat.two_pow_pos i)
    by_cases h0 : t % 2 ^ i = 0
    · rw [hz h0] at *
      have he : decodeF (encP l) = (l, 0, ((encP l).length : Int)) := by unfold decodeF; rw [steps_bk hf]
      rw [h0, he]
      simp [hK k hk]
    · obtain ⟨e, p, he, hne⟩ := refused l hf m hm hlen f (t % 2 ^ i) (by omega) (Nat.lt_of_lt_of_le h1 (Nat.pow_le_pow_right (by decide) (by omega))) (Nat.lt_of_lt_of_le h1 (Nat.pow_le_pow_right (by decide) (by omega))) h0 hn
      rw [decide_eq_true h0, he]
      simp only [if_true]
      rw [if_neg hne]
      rfl
  induction d with
  | zero =>
    intro k i m hm hlen hi hfi hd hk hn hz
    obtain ⟨k, rfl⟩ : ∃ m, k = m + 2 := ⟨k - 2, by omega⟩
    simp only [lexpriorlaw21_WireTurned.l0]
    rw [if_neg (by omega)]
    exact fin k i m (by omega) hm hlen hi hfi hn hz
  | succ d ih =>
    intro k i m hm hlen hi hfi hd hk hn hz
    have HN := Lib.hid hn
    clear hn
    obtain ⟨k, rfl⟩ : ∃ m, k = m + 2 := ⟨k - 2, by omega⟩
    simp only [lexpriorlaw21_WireTurned.l0]
    rw [if_pos (by omega), hlen, w64 (show -9223372036854775808 ≤ (f : Int) + i from by omega) (by omega), w64 (show -9223372036854775808 ≤ 8 * ((encP l).length : Int) from by omega) (by omega)]
    by_cases hlt : f + i < 8 * (encP l).length
    · rw [show decide ((f : Int) + i < 8 * ((encP l).length : Int)) = true from decide_eq_true (by omega)]
      have g0 : (0 : Int) ≤ (i : Int) := by omega
      have g1 : (0 : Int) ≤ (((f + i) / 8 : Nat) : Int) := by omega
      have g2 : (((f + i) / 8 : Nat) : Int) < (m.length : Int) := by omega
      have g3 : (0 : Int) ≤ (((f + i) % 8 : Nat) : Int) := by omega
      have hidx : 8 * ((f + i) / 8) + (f + i) % 8 = f + i := Nat.div_add_mod _ 8
      have hil : (f + i) / 8 < m.length := by omega
      have h8 : (f + i) % 8 < 8 := Nat.mod_lt _ (by decide)
      have o1 : i + 1 ≤ 32 := by omega
      have o2 : f + (i + 1) ≤ 8 * (encP l).length := by omega
      have o3 : 32 - (i + 1) = d := by omega
      have o4 : K + 2 * d + 2 < k := by omega
      have ob : f + i ≤ 1125899906842623 := by omega
      simp only [lexpriorlaw21_WireTurned.j2, if_true, w_sum f i ob, idx_q f i ob, idx_r f i, w_succ i o1, bit_u32 t i (show t < 2 ^ 32 from ht), if_pos g0, if_pos g1, if_pos g2, if_pos g3, Int.toNat_natCast]
      have hlt2 : t % 2 ^ i < 2 ^ i := Nat.mod_lt _ (Nat.two_pow_pos i)
      have hlow := low_more t i
      by_cases hbit : t / 2 ^ i % 2 = 1
      · rw [hbit] at hlow ⊢
        rw [if_pos (show ((1 : Nat) : Int) = 1 from rfl), shl_u8 _ (Nat.mod_lt _ (by decide))]
        rw [Nat.mul_one] at hlow
        have hrd := hm.rd_ (((f + i) / 8 : Nat) : Int)
        have h256 : 2 ^ ((f + i) % 8) < 256 := Nat.lt_of_lt_of_le (Nat.pow_lt_pow_right (by decide) h8) (by decide)
        have hx : Go.bits .xor .u8 (rd m (((f + i) / 8 : Nat) : Int)) ((2 ^ ((f + i) % 8) : Nat) : Int) = (((rd m (((f + i) / 8 : Nat) : Int)).toNat ^^^ 2 ^ ((f + i) % 8) : Nat) : Int) := by
          generalize 2 ^ ((f + i) % 8) = q at h256 ⊢
          have q0 : (0 : Int) ≤ (q : Int) := by omega
          have q1 : (q : Int) < 256 := by omega
          have q2 : rd m (((f + i) / 8 : Nat) : Int) < 256 := by omega
          rw [u8_xor _ _ hrd.1 q2 q0 q1, Int.toNat_natCast]
        rw [hx]
        have hpos := Nat.two_pow_pos i
        have hne : t % 2 ^ (i + 1) ≠ 0 := by rw [hlow]; exact Nat.ne_of_gt (Nat.lt_of_lt_of_le hpos (Nat.le_add_left _ _))
        have hgo := ih k (i + 1) (m.set ((f + i) / 8) (((rd m (((f + i) / 8 : Nat) : Int)).toNat ^^^ 2 ^ ((f + i) % 8) : Nat) : Int)) (fun y hy => ?_) ?_ o1 o2 o3 o4 ?_ (fun h => absurd h hne)
        · rw [decide_eq_true hne] at hgo
          exact hgo
        · rcases List.mem_or_eq_of_mem_set hy with h | h
          · exact hm y h
          · subst h
            have h9 : (rd m (((f + i) / 8 : Nat) : Int)).toNat ^^^ 2 ^ ((f + i) % 8) < 2 ^ 8 := Nat.xor_lt_two_pow (by omega) h256
            generalize (rd m (((f + i) / 8 : Nat) : Int)).toNat ^^^ 2 ^ ((f + i) % 8) = q at h9 ⊢
            omega
        · rw [List.length_set]; exact hlen
        · rw [numL_set m _ _ hm hil h8, HN.out, hlow, add_xor _ _ hlt2, mul_xor, Nat.xor_assoc, ← Nat.pow_add, hidx]
      · have hzz : t / 2 ^ i % 2 = 0 := by have := Nat.mod_lt (t / 2 ^ i) (show 0 < 2 by decide); omega
        rw [hzz] at hlow ⊢
        rw [if_neg (show ¬ ((0 : Nat) : Int) = 1 from by decide)]
        simp only [Nat.mul_zero, Nat.add_zero] at hlow
        have hn := HN.out
        rw [← hlow] at hn hz ⊢
        exact ih k (i + 1) m hm hlen o1 o2 o3 o4 hn hz
    · rw [show decide ((f : Int) + i < 8 * ((encP l).length : Int)) = false from decide_eq_false (by omega)]
      exact fin k i m (by omega) hm hlen hi hfi HN.out hz
theorem WireTurned : ∀ l, WfSteps l → ∀ a, (Lit.int .i64 a).wf = true → ∀ b, (Lit.int .u32 b).wf = true → ∃ k, lexpriorlaw21_WireTurned.f k l a b = some true := by
  intro l hw a ha b hb
  obtain ⟨t, rfl, ht⟩ : ∃ n : Nat, b = n ∧ n < 4294967296 := by
    have : 0 ≤ b ∧ b ≤ 4294967295 := by simpa [Lit.wf, IntKind.min, IntKind.max, IntKind.signed, IntKind.bits] using hb
    exact ⟨b.toNat, by omega, by omega⟩
  obtain ⟨K, hK⟩ := sameS l hw
  refine ⟨K + 500000000001, ?_⟩
  unfold lexpriorlaw21_WireTurned.f
  rw [alive_ _ (by omega)]
  simp only [Option.bind_some, if_true]
  have stop : ∀ m : List Int, lexpriorlaw21_WireTurned.j0 (K + 500000000001) l a (t : Int) m true = some true := fun m => by
    rw [lexpriorlaw21_WireTurned.j0, if_pos rfl]
  by_cases hf : fine l
  · have hlen := tP_len hf.2 hf.1
    have hL : (encP l).length = (tP l).length + 4 := by unfold encP; rw [List.length_append]; rfl
    rw [enc_ok l hf _ (by omega)]
    simp only [Option.bind_some, lexpriorlaw21_num.f, if_true]
    rw [w64 (show -9223372036854775808 ≤ 8 * ((encP l).length : Int) from by omega) (by omega)]
    by_cases h0 : a < 0
    · rw [if_pos h0, stop]
    · rw [if_neg h0]
      by_cases h1 : a ≥ 8 * ((encP l).length : Int)
      · rw [decide_eq_true h1, stop]
      · rw [decide_eq_false h1, lexpriorlaw21_WireTurned.j0, if_neg (show ¬ (false = true) from by decide)]
        obtain ⟨f, rfl⟩ := Int.eq_ofNat_of_zero_le (show 0 ≤ a by omega)
        have hz : t % 2 ^ 0 = 0 := by rw [Nat.pow_zero, Nat.mod_one]
        have h9 := turned_l0 l hf f t (by omega) (by omega) ht K (fun k hk => hK k hk) 32 (K + 500000000000) 0 (encP l) (encP_bytes hf) rfl (by omega) (by omega) (by omega) (by omega) (by rw [hz, Nat.mul_zero, Nat.xor_zero]) (fun _ => rfl)
        rw [hz] at h9
        exact h9
  · rw [enc_bad l hf _ (by omega)]
    have hne : ¬ (chk l).1 = 0 := fun hz => hf ((chk_zero l).1 hz)
    simp only [Option.bind_some, lexpriorlaw21_num.f, if_neg hne, stop]
end Go.Proofs.Ytccoeecladhfmaa.Pure
