/- CRC-32C on plain numbers: bit by bit, by half bytes, and as a law on the bytes' number; whoever turns a run of at most 32 bits turns the sum. -/
import Derived.Test.YtccoeecladhfmaaCrc
import Derived.Test.YtccoeecladhfmaaNum
import Derived.Laws.BitsAllLaws
namespace Go.Proofs.Ytccoeecladhfmaa.P
open Go.RowKit Go.Proofs.YtccoeecladhfmaaW.PrintWords Go.Proofs.YtccoeecladhfmaaW.PrintLast

/-! one bit -/
def cN (x : Nat) : Nat := if x % 2 = 1 then x / 2 ^^^ 2197175160 else x / 2
theorem cN_xor (a b : Nat) : cN (a ^^^ b) = cN a ^^^ cN b := by
  unfold cN
  have h := @Nat.xor_mod_two_eq_one a b
  have hd := @Nat.xor_div_two a b
  by_cases ha : a % 2 = 1 <;> by_cases hb : b % 2 = 1
  · rw [if_neg (by rw [h]; simp [ha, hb]), if_pos ha, if_pos hb, hd]
    rw [Nat.xor_comm (b / 2) 2197175160, ← Nat.xor_assoc, Nat.xor_assoc (a / 2), Nat.xor_self, Nat.xor_zero]
  · rw [if_pos (by rw [h]; simp [ha, hb]), if_pos ha, if_neg hb, hd, Nat.xor_assoc, Nat.xor_comm (b / 2), ← Nat.xor_assoc]
  · rw [if_pos (by rw [h]; simp [ha, hb]), if_neg ha, if_pos hb, hd, Nat.xor_assoc]
  · rw [if_neg (by rw [h]; simp [ha, hb]), if_neg ha, if_neg hb, hd]
theorem cN_lt {x : Nat} (h : x < 2 ^ 32) : cN x < 2 ^ 32 := by
  unfold cN
  split
  · exact Nat.xor_lt_two_pow (by omega) (by decide)
  · omega
theorem cN_ne {x : Nat} (h : x < 2 ^ 32) (h0 : x ≠ 0) : cN x ≠ 0 := by
  unfold cN
  split
  · intro e
    have e2 : x / 2 = 2197175160 := by
      have := congrArg (· ^^^ 2197175160) e
      simpa [Nat.xor_assoc, Nat.xor_self] using this
    omega
  · omega
theorem cN_even (q : Nat) : cN (2 * q) = q := by
  unfold cN
  rw [if_neg (by omega)]
  omega
theorem cN_zero : cN 0 = 0 := rfl
def cR : Nat → Nat → Nat
  | 0, x => x
  | k + 1, x => cR k (cN x)
theorem cR_xor (k : Nat) : ∀ a b, cR k (a ^^^ b) = cR k a ^^^ cR k b := by
  induction k with
  | zero => intro a b; rfl
  | succ k ih => intro a b; simp only [cR, cN_xor, ih]
theorem cR_ne (k : Nat) : ∀ x, x < 2 ^ 32 → x ≠ 0 → cR k x ≠ 0 := by
  induction k with
  | zero => intro x _ h; exact h
  | succ k ih => intro x h h0; exact ih _ (cN_lt h) (cN_ne h h0)
theorem cR_lt (k : Nat) : ∀ x, x < 2 ^ 32 → cR k x < 2 ^ 32 := by
  induction k with
  | zero => intro x h; exact h
  | succ k ih => intro x h; exact ih _ (cN_lt h)
theorem cR_zero (k : Nat) : cR k 0 = 0 := by
  induction k with
  | zero => rfl
  | succ k ih => simp only [cR, cN_zero, ih]
theorem cR_add (j : Nat) : ∀ k x, cR (j + k) x = cR k (cR j x) := by
  induction j with
  | zero => intro k x; rw [Nat.zero_add]; rfl
  | succ j ih => intro k x; rw [show j + 1 + k = (j + k) + 1 from by omega]; simp only [cR, ih]

/-! a number's bits, the lowest first -/
def G : Nat → Nat → Nat → Nat
  | 0, _, d => d
  | m + 1, n, d => G m (n / 2) (cN (d ^^^ n % 2))
theorem xor_mod2 (a b : Nat) : (a ^^^ b) % 2 = a % 2 ^^^ b % 2 := by
  have := @Nat.xor_mod_two_pow a b 1
  simpa using this
theorem xor4 (a b c d : Nat) : (a ^^^ b) ^^^ (c ^^^ d) = (a ^^^ c) ^^^ (b ^^^ d) := by
  rw [Nat.xor_assoc, ← Nat.xor_assoc b, Nat.xor_comm b c, Nat.xor_assoc c, ← Nat.xor_assoc]
theorem G_xor (m : Nat) : ∀ a b d e, G m (a ^^^ b) (d ^^^ e) = G m a d ^^^ G m b e := by
  induction m with
  | zero => intro a b d e; rfl
  | succ m ih => intro a b d e; simp only [G]; rw [Nat.xor_div_two, xor_mod2, xor4, cN_xor, ih]
theorem cN_split (d c : Nat) : cN (d ^^^ c) = cN (d ^^^ c % 2) ^^^ c / 2 := by
  have e : c = (2 * (c / 2)) ^^^ (c % 2) := by
    apply Nat.eq_of_testBit_eq
    intro i
    rw [Nat.testBit_xor]
    cases i with
    | zero => rw [Nat.testBit_zero, Nat.testBit_zero, Nat.testBit_zero]; simp
    | succ i =>
      rw [Nat.testBit_succ, Nat.testBit_succ, Nat.testBit_succ, show 2 * (c / 2) / 2 = c / 2 from by omega, show c % 2 / 2 = 0 from by omega]
      simp
  conv => lhs; rw [e]
  rw [Nat.xor_comm (2 * (c / 2)), ← Nat.xor_assoc, cN_xor, cN_even]
theorem G_low (j : Nat) : ∀ (m c r d : Nat), c < 2 ^ j → G (j + m) (c + 2 ^ j * r) d = G m r (cR j (d ^^^ c)) := by
  induction j with
  | zero =>
    intro m c r d h
    obtain rfl : c = 0 := by omega
    simp [cR]
  | succ j ih =>
    intro m c r d h
    rw [show j + 1 + m = (j + m) + 1 from by omega]
    simp only [G, cR]
    rw [show (c + 2 ^ (j + 1) * r) / 2 = c / 2 + 2 ^ j * r from by rw [Nat.pow_succ, Nat.mul_assoc, Nat.mul_left_comm, Nat.add_mul_div_left _ _ (by decide)],
      show (c + 2 ^ (j + 1) * r) % 2 = c % 2 from by rw [Nat.pow_succ, Nat.mul_assoc, Nat.mul_left_comm, Nat.add_mul_mod_self_left],
      ih m (c / 2) r _ (by rw [Nat.pow_succ] at h; omega), ← cN_split]
theorem G_shift (j m t : Nat) : G (j + m) (2 ^ j * t) 0 = G m t 0 := by
  have := G_low j m 0 t 0 (Nat.two_pow_pos j)
  rw [Nat.zero_add, Nat.xor_self, cR_zero] at this
  exact this
theorem G_all (m t : Nat) (h : t < 2 ^ m) : G m t 0 = cR m t := by
  have := G_low m 0 t 0 0 h
  simpa [G] using this

/-! the bytes' number -/
def numL : List Int → Nat
  | [] => 0
  | x :: l => x.toNat + 256 * numL l
theorem split256 (x y a b : Nat) (hx : x < 256) (hy : y < 256) : (x + 256 * a) ^^^ (y + 256 * b) = (x ^^^ y) + 256 * (a ^^^ b) := by
  have hd := @Nat.xor_div_two_pow (x + 256 * a) (y + 256 * b) 8
  have hm := @Nat.xor_mod_two_pow (x + 256 * a) (y + 256 * b) 8
  rw [show (2 : Nat) ^ 8 = 256 from rfl] at hd hm
  have hxy : x ^^^ y < 256 := Nat.xor_lt_two_pow (n := 8) hx hy
  rw [show (x + 256 * a) / 256 = a from by omega, show (y + 256 * b) / 256 = b from by omega] at hd
  rw [show (x + 256 * a) % 256 = x from by omega, show (y + 256 * b) % 256 = y from by omega] at hm
  omega
theorem numL_set : ∀ (l : List Int) (i b : Nat), Bytes l → i < l.length → b < 8 → numL (l.set i (((rd l i).toNat ^^^ 2 ^ b : Nat) : Int)) = numL l ^^^ 2 ^ (8 * i + b) := by
  intro l
  induction l with
  | nil => intro i b _ h; simp at h
  | cons x l ih =>
    intro i b hb hi h8
    have hx := hb x List.mem_cons_self
    have hbl : Bytes l := fun y hy => hb y (List.mem_cons_of_mem _ hy)
    have h256 : 2 ^ b < 256 := Nat.lt_of_lt_of_le (Nat.pow_lt_pow_right (by decide) h8) (by decide)
    cases i with
    | zero =>
      have e : rd (x :: l) ((0 : Nat) : Int) = x := rfl
      rw [e]
      simp only [List.set_cons_zero, numL, Int.toNat_natCast, Nat.mul_zero, Nat.zero_add]
      have := split256 x.toNat (2 ^ b) (numL l) 0 (by omega) h256
      simp only [Nat.mul_zero, Nat.add_zero, Nat.xor_zero] at this
      exact this.symm
    | succ i =>
      have e : rd (x :: l) ((i + 1 : Nat) : Int) = rd l i := by
        unfold rd
        rw [Int.toNat_natCast, Int.toNat_natCast]
        rfl
      rw [e]
      simp only [List.set_cons_succ, numL]
      rw [ih i b hbl (by simpa using hi) h8, show 8 * (i + 1) + b = 8 + (8 * i + b) from by omega, Nat.pow_add 2 8 (8 * i + b)]
      have := split256 x.toNat 0 (numL l) (2 ^ (8 * i + b)) (by omega) (by omega)
      simp only [Nat.zero_add, Nat.xor_zero] at this
      exact this.symm

/-! what the code reckons -/
theorem crc1_nat (n : Nat) (h : n < 2 ^ 32) : crc1 (n : Int) = (cN n : Nat) := by
  unfold crc1 cN
  rw [u32_and _ _ (by omega) (by omega) (by decide) (by decide), show ((n : Int).toNat &&& (1 : Int).toNat) = n % 2 from Nat.and_two_pow_sub_one_eq_mod n 1]
  by_cases hb : n % 2 = 1
  · rw [if_pos (by omega), if_pos hb, show (n : Int) / 2 = ((n / 2 : Nat) : Int) from by omega, u32_xor _ _ (by omega) (by omega) (by decide) (by decide)]
    rfl
  · rw [if_neg (by omega), if_neg hb]
    omega
theorem itr_nat (k : Nat) (hk : k < 2 ^ 32) (j : Nat) : itr k j = (cR j k : Nat) := by
  induction j with
  | zero => rfl
  | succ j ih =>
    have e : cR (j + 1) k = cN (cR j k) := by rw [cR_add]; rfl
    rw [itr, ih, crc1_nat _ (cR_lt j k hk), e]
theorem half_nat (s : Nat) (h : s < 2 ^ 32) : half (s : Int) = (cR 4 s : Nat) := by
  unfold half tabv
  rw [u32_and _ _ (by omega) (by omega) (by decide) (by decide), show ((s : Int).toNat &&& (15 : Int).toNat) = s % 16 from Nat.and_two_pow_sub_one_eq_mod s 4, Int.toNat_natCast,
    itr_nat _ (by omega), show (s : Int) / 16 = ((s / 16 : Nat) : Int) from by omega,
    u32_xor _ _ (by omega) (by omega) (by omega) (by have := cR_lt 4 (s % 16) (by omega); omega), Int.toNat_natCast, Int.toNat_natCast]
  have e : s = (16 * (s / 16)) ^^^ (s % 16) := by
    have hd := @Nat.xor_div_two_pow (16 * (s / 16)) (s % 16) 4
    have hm := @Nat.xor_mod_two_pow (16 * (s / 16)) (s % 16) 4
    rw [show (2 : Nat) ^ 4 = 16 from rfl] at hd hm
    rw [show 16 * (s / 16) / 16 = s / 16 from by omega, show s % 16 / 16 = 0 from by omega, Nat.xor_zero] at hd
    rw [show 16 * (s / 16) % 16 = 0 from by omega, show s % 16 % 16 = s % 16 from by omega, Nat.zero_xor] at hm
    omega
  have e2 : cR 4 (16 * (s / 16)) = s / 16 := by
    simp only [cR]
    rw [show 16 * (s / 16) = 2 * (2 * (2 * (2 * (s / 16)))) from by omega, cN_even, cN_even, cN_even, cN_even]
  have e3 : cR 4 s = s / 16 ^^^ cR 4 (s % 16) := by
    conv => lhs; rw [e, cR_xor, e2]
  rw [e3]
theorem crcB_nat (s c : Nat) (h : s < 2 ^ 32) (hc : c < 256) : crcB (s : Int) (c : Int) = (cR 8 (s ^^^ c) : Nat) := by
  unfold crcB
  have hx : s ^^^ c < 2 ^ 32 := Nat.xor_lt_two_pow h (by omega)
  rw [show (c : Int) % 4294967296 = c from by omega, u32_xor _ _ (by omega) (by omega) (by omega) (by omega), Int.toNat_natCast, Int.toNat_natCast, half_nat _ hx, half_nat _ (cR_lt 4 _ hx), ← cR_add]
theorem crcF_nat : ∀ (l : List Int) (s : Nat), Bytes l → s < 2 ^ 32 → l.foldl crcB (s : Int) = (G (8 * l.length) (numL l) s : Nat) := by
  intro l
  induction l with
  | nil => intro s _ _; rfl
  | cons x l ih =>
    intro s hb hs
    have hx := hb x List.mem_cons_self
    have hbl : Bytes l := fun y hy => hb y (List.mem_cons_of_mem _ hy)
    obtain ⟨c, rfl⟩ := Int.eq_ofNat_of_zero_le hx.1
    rw [List.foldl_cons, crcB_nat s c hs (by omega), ih _ hbl (cR_lt 8 _ (Nat.xor_lt_two_pow hs (by omega))), List.length_cons, numL, show 8 * (l.length + 1) = 8 + 8 * l.length from by omega, Int.toNat_natCast]
    have := G_low 8 (8 * l.length) c (numL l) s (by omega)
    rw [show (2 : Nat) ^ 8 = 256 from rfl] at this
    rw [this]
theorem G_lt (m : Nat) : ∀ n d, d < 2 ^ 32 → G m n d < 2 ^ 32 := by
  induction m with
  | zero => intro n d h; exact h
  | succ m ih => intro n d h; exact ih _ _ (cN_lt (Nat.xor_lt_two_pow h (by omega)))
theorem crcL_nat (l : List Int) (h : Bytes l) : crcL l = ((4294967295 ^^^ G (8 * l.length) (numL l) 4294967295 : Nat) : Int) := by
  unfold crcL crcF
  have e := crcF_nat l 4294967295 h (by decide)
  have hlt := G_lt (8 * l.length) (numL l) 4294967295 (by decide)
  rw [show ((4294967295 : Nat) : Int) = 4294967295 from rfl] at e
  rw [e, u32_xor _ _ (by decide) (by decide) (by omega) (by omega), Int.toNat_natCast]
  rfl
/-- THE LAW: two rows of bytes of one length whose numbers part in a run t of at most 32 bits have two sums, if t is not nought. -/
theorem crc_turned (l m : List Int) (hl : Bytes l) (hm : Bytes m) (hlen : m.length = l.length) (f t : Nat) (hf : f ≤ 8 * l.length) (ht : t < 2 ^ (8 * l.length - f)) (h32 : t < 2 ^ 32)
    (hn : numL m = numL l ^^^ 2 ^ f * t) : (crcL m != crcL l) = decide (t ≠ 0) := by
  rw [crcL_nat l hl, crcL_nat m hm, hn, hlen]
  have e : G (8 * l.length) (numL l ^^^ 2 ^ f * t) 4294967295 = G (8 * l.length) (numL l) 4294967295 ^^^ cR (8 * l.length - f) t := by
    have h1 := G_xor (8 * l.length) (numL l) (2 ^ f * t) 4294967295 0
    rw [Nat.xor_zero] at h1
    have h2 := G_shift f (8 * l.length - f) t
    rw [show f + (8 * l.length - f) = 8 * l.length from by omega] at h2
    rw [h1, h2, G_all _ _ ht]
  rw [e, ← Nat.xor_assoc]
  generalize 4294967295 ^^^ G (8 * l.length) (numL l) 4294967295 = g
  by_cases h0 : t = 0
  · subst h0
    rw [cR_zero]
    simp
  · have hne := cR_ne (8 * l.length - f) t h32 h0
    have : ((g ^^^ cR (8 * l.length - f) t : Nat) : Int) ≠ (g : Int) := by
      intro h
      have h2 : g ^^^ cR (8 * l.length - f) t = g := by omega
      have h3 := congrArg (g ^^^ ·) h2
      simp only [← Nat.xor_assoc, Nat.xor_self, Nat.zero_xor] at h3
      exact hne h3
    rw [bne_iff_ne.2 this]
    simp [h0]
end Go.Proofs.Ytccoeecladhfmaa.P
