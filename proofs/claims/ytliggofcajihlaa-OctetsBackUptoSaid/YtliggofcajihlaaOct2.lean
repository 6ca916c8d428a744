/- Plain laws of sums and digits: what the printed functions of layer 1 tell. -/
import Derived.Test.YtliggofcajihlaaOct1
import Derived.Test.YtliggofcajihlaaCrcN
namespace Go.Proofs.Ytliggofcajihlaa.P
open Go.RowKit Go.Proofs.YtliggofcajihlaaW.PrintWords Go.Proofs.YtliggofcajihlaaW.PrintLast

/-! the reference's sum -/
theorem rsum_bit (x : Nat) (h : x < 2 ^ 32) : (if Int.tmod (x : Int) 2 = 1 then Go.bits .xor .u32 ((x : Int) / 2) 2197175160 else (x : Int) / 2) = (cN x : Nat) := by
  have hx : x < 4294967296 := h
  unfold cN
  rw [Int.tmod_eq_emod_of_nonneg (by omega)]
  by_cases hb : x % 2 = 1
  · rw [if_pos (by omega), if_pos hb, show (x : Int) / 2 = ((x / 2 : Nat) : Int) from by omega, u32_xor _ _ (by omega) (by omega) (by decide) (by decide)]
    rfl
  · rw [if_neg (by omega), if_neg hb]
    omega
theorem w_small (i : Nat) (h : i ≤ 140737488355328) : wrap64 ((i : Int) + 1) = ((i + 1 : Nat) : Int) := (w64 (by omega) (by omega)).trans (by omega)
theorem rsum_l1 (l : List Int) (i : Nat) (hi : i ≤ 140737488355328) (y : Nat) (hy : y < 2 ^ 32) (d : Nat) : ∀ (k j : Nat), j + d = 8 →
    lexpriorref01_Sum.l1 (k + d + 1) l ((cR j y : Nat) : Int) i j = lexpriorref01_Sum.l0 k l ((cR 8 y : Nat) : Int) ((i + 1 : Nat) : Int) := by
  induction d with
  | zero =>
    intro k j hj
    obtain rfl : j = 8 := by omega
    rw [Nat.add_zero, lexpriorref01_Sum.l1, if_neg (by omega), w_small i hi]
  | succ d ih =>
    intro k j hj
    rw [lexpriorref01_Sum.l1, if_pos (by omega), w_small j (by omega)]
    have e := rsum_bit (cR j y) (cR_lt j y hy)
    have e2 : cR (j + 1) y = cN (cR j y) := by rw [cR_add]; rfl
    have e3 := ih k (j + 1) (by omega)
    rw [e2] at e3
    rw [show k + (d + 1) = k + d + 1 from rfl, ← e3]
    by_cases hc : Int.tmod ((cR j y : Nat) : Int) 2 = 1
    · rw [if_pos hc] at e ⊢
      rw [e]
    · rw [if_neg hc] at e ⊢
      rw [e]
theorem rsum_l0 (l : List Int) (hb : Bytes l) (hl : l.length ≤ 140737488355328) (d : Nat) : ∀ (k i s : Nat), s < 2 ^ 32 → i ≤ l.length → l.length - i = d → 10 * d < k →
    lexpriorref01_Sum.l0 k l (s : Int) i = some (Go.bits .xor .u32 4294967295 ((l.drop i).foldl crcB (s : Int))) := by
  induction d with
  | zero =>
    intro k i s hs h1 h2 hk
    obtain ⟨k, rfl⟩ : ∃ m, k = m + 1 := ⟨k - 1, by omega⟩
    rw [lexpriorref01_Sum.l0, if_neg (by omega), List.drop_eq_nil_of_le (by omega)]
    rfl
  | succ d ih =>
    intro k i s hs h1 h2 hk
    obtain ⟨k, rfl⟩ : ∃ m, k = m + 10 := ⟨k - 10, by omega⟩
    have hlt : i < l.length := by omega
    obtain ⟨c0, c1⟩ := hb.rd_ i
    rw [lexpriorref01_Sum.l0, if_pos (by omega), if_pos (by omega), drop_rd l i hlt, List.foldl_cons]
    generalize rd l (i : Int) = c at c0 c1
    obtain ⟨c, rfl⟩ := Int.eq_ofNat_of_zero_le c0
    have hx : s ^^^ c < 2 ^ 32 := Nat.xor_lt_two_pow hs (by omega)
    have e1 : Go.bits .xor .u32 (s : Int) ((c : Int) % 4294967296) = ((s ^^^ c : Nat) : Int) := by
      have hs' : s < 4294967296 := hs
      rw [show (c : Int) % 4294967296 = c from by omega, u32_xor _ _ (by omega) (by omega) (by omega) (by omega), Int.toNat_natCast, Int.toNat_natCast]
    rw [e1, crcB_nat s c hs (by omega)]
    have h8 := rsum_l1 l i (by omega) (s ^^^ c) hx 8 k 0 (by omega)
    rw [show k + 8 + 1 = k + 9 from rfl] at h8
    have h9 := ih k (i + 1) (cR 8 (s ^^^ c)) (cR_lt 8 _ hx) (by omega) (by omega) (by omega)
    rw [h9] at h8
    exact h8
theorem rsum (l : List Int) (hb : Bytes l) (hl : l.length ≤ 140737488355328) : Ev (fun k => lexpriorref01_Sum.f k l) (crcL l) :=
  ⟨10 * l.length + 1, fun k hk => by
    show lexpriorref01_Sum.f k l = _
    unfold lexpriorref01_Sum.f crcL crcF
    exact rsum_l0 l hb hl l.length k 0 4294967295 (by decide) (by omega) (by omega) (by omega)⟩

/-! digits -/
def dig (v : Int) : Int := bt (⟨#[48, 49, 50, 51, 52, 53, 54, 55, 56, 57, 97, 98, 99, 100, 101, 102]⟩ : ByteArray) v
def hexL : List Int → List Int
  | [] => []
  | x :: l => dig (x / 16) :: dig (x % 16) :: hexL l
theorem hexL_len (l : List Int) : (hexL l).length = 2 * l.length := by
  induction l with
  | nil => rfl
  | cons x l ih => simp only [hexL, List.length_cons, ih]; omega
theorem hex_l0 (l : List Int) (hb : Bytes l) (hl : l.length ≤ 1048576) (d : Nat) : ∀ (k i : Nat) (acc : List Int), i ≤ l.length → l.length - i = d → d < k → acc.length + 2 * d ≤ 2097152 →
    octets_Hex.l0 k acc l (l.length : Int) i = some (strOfNums (acc ++ hexL (l.drop i))) := by
  induction d with
  | zero =>
    intro k i acc h1 h2 hk ha
    obtain ⟨k, rfl⟩ : ∃ m, k = m + 1 := ⟨k - 1, by omega⟩
    rw [octets_Hex.l0, if_neg (by omega), List.drop_eq_nil_of_le (by omega), hexL, List.append_nil]
  | succ d ih =>
    intro k i acc h1 h2 hk ha
    obtain ⟨k, rfl⟩ : ∃ m, k = m + 1 := ⟨k - 1, by omega⟩
    have hlt : i < l.length := by omega
    obtain ⟨c0, c1⟩ := hb.rd_ i
    have h9 := ih k (i + 1) (acc ++ [dig (rd l i / 16), dig (rd l i % 16)]) (by omega) (by omega) (by omega) (by simp; omega)
    rw [octets_Hex.l0, if_pos (by omega), if_pos (by omega), if_pos (by omega), drop_rd l i hlt, w_small i (by omega)]
    generalize rd l (i : Int) = c at c0 c1 h9
    rw [u8_and15 (x := c) c0 (by omega), if_pos (by omega), if_pos (by omega), if_pos (by omega), if_pos (by omega)]
    simp only [Option.bind_some, List.length_cons, List.length_nil]
    rw [if_pos (by omega), hexL]
    simp only [List.append_assoc, List.cons_append, List.nil_append] at h9 ⊢
    exact h9
theorem hexE (l : List Int) (hb : Bytes l) (hl : l.length ≤ 1048576) : Ev (fun k => octets_Hex.f k l) (strOfNums (hexL l)) :=
  ⟨l.length + 1, fun k hk => by
    show octets_Hex.f k l = _
    have e : wrap64 (2 * (l.length : Int)) = 2 * (l.length : Int) := w64 (by omega) (by omega)
    have h := hex_l0 l hb hl l.length k 0 [] (by omega) (by omega) (by omega) (by simp; omega)
    unfold octets_Hex.f
    rw [e, if_pos (by omega), if_pos (by omega)]
    simpa using h⟩
theorem rhex_l0 (l : List Int) (hb : Bytes l) (hl : l.length ≤ 1048576) (d : Nat) : ∀ (k i : Nat) (acc : List Int), i ≤ l.length → l.length - i = d → d < k → acc.length + 2 * d ≤ 2097152 →
    lexpriorref01_Hex.l0 k l acc i = some (strOfNums (acc ++ hexL (l.drop i))) := by
  induction d with
  | zero =>
    intro k i acc h1 h2 hk ha
    obtain ⟨k, rfl⟩ : ∃ m, k = m + 1 := ⟨k - 1, by omega⟩
    rw [lexpriorref01_Hex.l0, if_neg (by omega), List.drop_eq_nil_of_le (by omega), hexL, List.append_nil]
  | succ d ih =>
    intro k i acc h1 h2 hk ha
    obtain ⟨k, rfl⟩ : ∃ m, k = m + 1 := ⟨k - 1, by omega⟩
    have hlt : i < l.length := by omega
    obtain ⟨c0, c1⟩ := hb.rd_ i
    have h9 := ih k (i + 1) (acc ++ [dig (rd l i / 16), dig (rd l i % 16)]) (by omega) (by omega) (by omega) (by simp; omega)
    rw [lexpriorref01_Hex.l0, if_pos (by omega), if_pos (by omega), drop_rd l i hlt, w_small i (by omega)]
    generalize rd l (i : Int) = c at c0 c1 h9
    rw [Int.tdiv_eq_ediv_of_nonneg c0, Int.tmod_eq_emod_of_nonneg c0, IntKind.wrap_u8, show c / 16 % 256 = c / 16 from by omega, if_pos (by omega), if_pos (by omega), if_pos (by omega), if_pos (by omega)]
    simp only [Option.bind_some, List.length_cons, List.length_nil]
    rw [if_pos (by omega), hexL]
    simp only [List.append_assoc, List.cons_append, List.nil_append] at h9 ⊢
    exact h9
theorem rhexE (l : List Int) (hb : Bytes l) (hl : l.length ≤ 1048576) : Ev (fun k => lexpriorref01_Hex.f k l) (strOfNums (hexL l)) :=
  ⟨l.length + 1, fun k hk => by
    show lexpriorref01_Hex.f k l = _
    have h := rhex_l0 l hb hl l.length k 0 [] (by omega) (by omega) (by omega) (by simp; omega)
    unfold lexpriorref01_Hex.f
    simpa using h⟩

/-! digits read -/
theorem nib (c : Int) (h0 : 0 ≤ c) (h1 : c ≤ 255) (k : Nat) (hk : 3 ≤ k) : lexpriorref01_Nibble.f k c = some (if (hv c).2 = true then (hv c).1 else -1) := by
  obtain ⟨k, rfl⟩ : ∃ m, k = m + 2 := ⟨k - 2, by omega⟩
  unfold lexpriorref01_Nibble.f hv
  simp only [lexpriorref01_Nibble.j0, lexpriorref01_Nibble.j1, decide_eq_true_eq]
  by_cases a : 48 ≤ c ∧ c ≤ 57
  · rw [if_pos (show c ≥ 48 from a.1), if_pos a.2, if_pos a]
    simp only [if_true]
    rw [show (c - 48) % 256 = c - 48 from by omega]
  · rw [if_neg a]
    have e1 : (if c ≥ 48 then (if c ≤ 57 then some ((c - 48) % 256) else if c ≥ 97 then (if c ≤ 102 then some ((c - 97) % 256 + 10) else if c ≥ 65 then if c ≤ 70 then some ((c - 65) % 256 + 10) else some (-1) else some (-1)) else if (false = true) then some ((c - 97) % 256 + 10) else if c ≥ 65 then if c ≤ 70 then some ((c - 65) % 256 + 10) else some (-1) else some (-1))
        else if (false = true) then some ((c - 48) % 256) else if c ≥ 97 then (if c ≤ 102 then some ((c - 97) % 256 + 10) else if c ≥ 65 then if c ≤ 70 then some ((c - 65) % 256 + 10) else some (-1) else some (-1)) else if (false = true) then some ((c - 97) % 256 + 10) else if c ≥ 65 then if c ≤ 70 then some ((c - 65) % 256 + 10) else some (-1) else some (-1)) =
        some (if (if 97 ≤ c ∧ c ≤ 102 then (c - 87, true) else if 65 ≤ c ∧ c ≤ 70 then (c - 55, true) else ((0 : Int), false)).2 = true then (if 97 ≤ c ∧ c ≤ 102 then (c - 87, true) else if 65 ≤ c ∧ c ≤ 70 then (c - 55, true) else ((0 : Int), false)).1 else -1) := by
      have hf : ¬ (false = true) := by decide
      by_cases b : 97 ≤ c ∧ c ≤ 102
      · simp only [if_pos b, if_pos (show c ≥ 48 by omega), if_neg (show ¬ c ≤ 57 by omega), if_pos (show c ≥ 97 from b.1), if_pos b.2, if_true]
        rw [show (c - 97) % 256 + 10 = c - 87 from by omega]
      · by_cases b2 : 65 ≤ c ∧ c ≤ 70
        · simp only [if_neg b, if_pos b2, if_pos (show c ≥ 48 by omega), if_neg (show ¬ c ≤ 57 by omega), if_neg (show ¬ c ≥ 97 by omega), if_neg hf, if_pos (show c ≥ 65 from b2.1), if_pos b2.2, if_true]
          rw [show (c - 65) % 256 + 10 = c - 55 from by omega]
        · simp only [if_neg b, if_neg b2, if_neg hf]
          repeat' split
          all_goals first | rfl | omega
    exact e1
theorem bt_byte (s : ByteArray) (i : Int) : 0 ≤ bt s i ∧ bt s i ≤ 255 := bt_range s i
theorem or16 (v u : Int) (h0 : 0 ≤ v) (h1 : v ≤ 15) (h2 : 0 ≤ u) (h3 : u ≤ 15) : Go.bits .or .u8 (v * 16) u = v * 16 + u := by
  obtain ⟨a, rfl⟩ := Int.eq_ofNat_of_zero_le h0
  obtain ⟨b, rfl⟩ := Int.eq_ofNat_of_zero_le h2
  rw [show (a : Int) * 16 = ((16 * a : Nat) : Int) from by omega, u8_or _ _ (by omega) (by omega) (by omega) (by omega), Int.toNat_natCast, Int.toNat_natCast]
  have := nat_join 4 (16 * a) b (by omega) (by omega)
  rw [this]
  omega
theorem uhOut_two (s : ByteArray) (i : Nat) (h : i % 2 = 0) : uhOut s (i + 2) = uhOut s i ++ [(hv (bt s i)).1 * 16 + (hv (bt s ((i + 1 : Nat) : Int))).1] := by
  obtain ⟨a0, a1⟩ := hv_bd (bt s i)
  obtain ⟨b0, b1⟩ := hv_bd (bt s ((i + 1 : Nat) : Int))
  have hl := uhOut_len s i
  have hx : (i + 1) / 2 = (uhOut s i).length := by omega
  rw [show i + 2 = (i + 1) + 1 from rfl, uhOut_odd s (i + 1) (by omega), uhOut_even s i h, hx]
  have e : rd (uhOut s i ++ [(hv (bt s i)).1 * 16]) (((uhOut s i).length : Nat) : Int) = (hv (bt s i)).1 * 16 := by
    unfold rd
    rw [Int.toNat_natCast, List.getD_eq_getElem?_getD, List.getElem?_append_right (Nat.le_refl _)]
    simp
  rw [e, or16 _ _ a0 a1 b0 b1, List.set_append_right _ _ (Nat.le_refl _)]
  simp
theorem runhex_l1 (s : ByteArray) (hs : s.size ≤ 1048576) (hg : ∀ j, j < s.size → (hv (bt s j)).2 = true) (hev : s.size % 2 = 0) (d : Nat) : ∀ (k i : Nat), i % 2 = 0 → i + 2 * d = s.size → d + 3 < k →
    lexpriorref01_Unhex.l1 k s (uhOut s i) i = some (uhOut s s.size, 0, 0) := by
  induction d with
  | zero =>
    intro k i h0 h1 hk
    obtain ⟨k, rfl⟩ : ∃ m, k = m + 1 := ⟨k - 1, by omega⟩
    obtain rfl : i = s.size := by omega
    rw [lexpriorref01_Unhex.l1, if_neg (by omega)]
  | succ d ih =>
    intro k i h0 h1 hk
    obtain ⟨k, rfl⟩ : ∃ m, k = m + 1 := ⟨k - 1, by omega⟩
    have g1 := hg i (by omega)
    have g2 := hg (i + 1) (by omega)
    obtain ⟨a0, a1⟩ := hv_bd (bt s i)
    obtain ⟨b0, b1⟩ := hv_bd (bt s ((i + 1 : Nat) : Int))
    have h9 := ih k (i + 2) (by omega) (by omega) (by omega)
    have hlen := uhOut_len s i
    rw [uhOut_two s i h0] at h9
    rw [lexpriorref01_Unhex.l1, if_pos (by omega), if_pos (by omega), nib _ (bt_byte s i).1 (bt_byte s i).2 k (by omega), g1, w_small i (by omega)]
    simp only [if_true, Option.bind_some]
    rw [if_pos (show (0 : Int) ≤ ((i + 1 : Nat) : Int) from by omega), if_pos (show ((i + 1 : Nat) : Int) < (s.size : Int) from by omega), nib _ (bt_byte s _).1 (bt_byte s _).2 k (by omega), g2]
    simp only [if_true, Option.bind_some]
    generalize (hv (bt s i)).1 = v at a0 a1 h9 ⊢
    generalize (hv (bt s ((i + 1 : Nat) : Int))).1 = u at b0 b1 h9 ⊢
    rw [if_pos (show (uhOut s i).length < 140737488355328 from by omega), w64 (show -9223372036854775808 ≤ (v * 16) from by omega) (by omega), w64 (show -9223372036854775808 ≤ v * 16 + u from by omega) (by omega), show (v * 16 + u) % 256 = v * 16 + u from by omega,
      w64 (show -9223372036854775808 ≤ (i : Int) + 2 from by omega) (by omega), show (i : Int) + 2 = ((i + 2 : Nat) : Int) from by omega]
    exact h9
theorem runhex_l0 (s : ByteArray) (hs : s.size ≤ 1048576) (d : Nat) : ∀ (k i : Nat), i ≤ s.size → s.size - i = d → (∀ j, j < i → (hv (bt s j)).2 = true) → d + s.size + 6 < k →
    lexpriorref01_Unhex.l0 k s i = some (uh s) := by
  induction d with
  | zero =>
    intro k i h0 h1 hg hk
    obtain ⟨k, rfl⟩ : ∃ m, k = m + 1 := ⟨k - 1, by omega⟩
    obtain rfl : i = s.size := by omega
    rw [lexpriorref01_Unhex.l0, if_neg (by omega)]
    unfold uh
    rw [uhBad_none hg]
    by_cases ho : s.size % 2 = 1
    · rw [if_pos (by omega)]
      simp only [if_pos ho]
    · rw [if_neg (by omega)]
      simp only [if_neg ho]
      exact runhex_l1 s hs hg (by omega) (s.size / 2) k 0 (by omega) (by omega) (by omega)
  | succ d ih =>
    intro k i h0 h1 hg hk
    obtain ⟨k, rfl⟩ : ∃ m, k = m + 1 := ⟨k - 1, by omega⟩
    rw [lexpriorref01_Unhex.l0, if_pos (by omega), if_pos (by omega), nib _ (bt_byte s i).1 (bt_byte s i).2 k (by omega), w_small i (by omega)]
    obtain ⟨a0, a1⟩ := hv_bd (bt s i)
    rcases hb : (hv (bt s i)).2 with _ | _
    · simp only [if_neg (show ¬ (false = true) from by decide), Option.bind_some, if_pos (show (-1 : Int) < 0 from by decide)]
      unfold uh
      rw [uhBad_some (by omega) hb hg]
    · simp only [if_true, Option.bind_some]
      rw [if_neg (by omega)]
      refine ih k (i + 1) (by omega) (by omega) (fun j hj => ?_) (by omega)
      rcases Nat.lt_or_ge j i with h | h
      · exact hg j h
      · obtain rfl : j = i := by omega
        exact hb
theorem runhex (s : ByteArray) (hs : s.size ≤ 1048576) : Ev (fun k => lexpriorref01_Unhex.f k s) (uh s) :=
  ⟨2 * s.size + 8, fun k hk => by
    show lexpriorref01_Unhex.f k s = _
    unfold lexpriorref01_Unhex.f
    exact runhex_l0 s hs s.size k 0 (by omega) (by omega) (fun j h => absurd h (by omega)) (by omega)⟩
end Go.Proofs.Ytliggofcajihlaa.P
