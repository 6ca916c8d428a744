/- Plain laws of copies, comparisons and numbers of 7 bits a byte: what the printed functions tell. -/
import Derived.Test.YtccoeecladhfmaaPx9
import Derived.Test.YtccoeecladhfmaaPx10
import Derived.Laws.BitsAllLaws
namespace Go.Proofs.Ytccoeecladhfmaa.P
open Go.RowKit Go.Proofs.YtccoeecladhfmaaW.PrintWords Go.Proofs.YtccoeecladhfmaaW.PrintLast

theorem w64 {x : Int} (h0 : -9223372036854775808 ≤ x) (h1 : x ≤ 9223372036854775807) : wrap64 x = x := by
  unfold wrap64; omega
theorem rd_lt {l : List Int} {i : Nat} (h : i < l.length) : rd l i = l[i] := by
  unfold rd
  rw [Int.toNat_natCast, List.getD_eq_getElem?_getD, List.getElem?_eq_getElem h]
  rfl

theorem copyB_l0 (l : List Int) (hl : l.length ≤ 140737488351232) (d : Nat) : ∀ (k i : Nat), i ≤ l.length → l.length - i = d → d < k →
    lexpriorplain_CopyBytes.l0 k l (l.take i) i = some l := by
  induction d with
  | zero =>
    intro k i h1 h2 hk
    obtain ⟨k, rfl⟩ : ∃ m, k = m + 1 := ⟨k - 1, by omega⟩
    obtain rfl : i = l.length := by omega
    simp only [lexpriorplain_CopyBytes.l0]
    rw [if_neg (by omega), List.take_length]
  | succ d ih =>
    intro k i h1 h2 hk
    obtain ⟨k, rfl⟩ : ∃ m, k = m + 1 := ⟨k - 1, by omega⟩
    have hlt : i < l.length := by omega
    simp only [lexpriorplain_CopyBytes.l0]
    rw [if_pos (by omega), if_pos (by omega), if_pos (by rw [List.length_take]; omega), w64 (by omega) (by omega), rd_lt hlt, ← List.take_succ_eq_append_getElem hlt]
    exact ih k (i + 1) (by omega) (by omega) (by omega)
theorem copyB (l : List Int) (hl : l.length ≤ 140737488351232) : Ev (fun k => lexpriorplain_CopyBytes.f k l) l :=
  ⟨l.length + 1, fun k hk => by
    unfold lexpriorplain_CopyBytes.f
    exact copyB_l0 l hl l.length k 0 (by omega) (by omega) (by omega)⟩

theorem sameB_l0 (l m : List Int) (hlen : l.length = m.length) (hl : l.length ≤ 9223372036854775806) (d : Nat) : ∀ (k i : Nat), i ≤ l.length → l.length - i = d → d < k →
    lexpriorplain_SameBytes.l0 k l m i = some (decide (l.drop i = m.drop i)) := by
  induction d with
  | zero =>
    intro k i h1 h2 hk
    obtain ⟨k, rfl⟩ : ∃ m, k = m + 1 := ⟨k - 1, by omega⟩
    simp only [lexpriorplain_SameBytes.l0]
    rw [if_neg (by omega), List.drop_eq_nil_of_le (by omega), List.drop_eq_nil_of_le (by omega)]
    simp
  | succ d ih =>
    intro k i h1 h2 hk
    obtain ⟨k, rfl⟩ : ∃ m, k = m + 1 := ⟨k - 1, by omega⟩
    have hlt : i < l.length := by omega
    have hlt' : i < m.length := by omega
    simp only [lexpriorplain_SameBytes.l0]
    rw [if_pos (by omega), if_pos (by omega), if_pos (by omega), rd_lt hlt, rd_lt hlt']
    have e1 := List.drop_eq_getElem_cons hlt
    have e2 := List.drop_eq_getElem_cons hlt'
    by_cases e : l[i] = m[i]
    · rw [if_pos e, w64 (by omega) (by omega)]
      have h := ih k (i + 1) (by omega) (by omega) (by omega)
      rw [show ((i + 1 : Nat) : Int) = (i : Int) + 1 from by omega] at h
      rw [h, e1, e2, e]
      exact congrArg some (decide_eq_decide.2 ⟨fun h => by rw [h], fun h => (List.cons.inj h).2⟩)
    · rw [if_neg e, e1, e2]
      exact congrArg some (decide_eq_false (fun h => e (List.cons.inj h).1)).symm
theorem sameB (l m : List Int) (hl : l.length ≤ 9223372036854775806) : Ev (fun k => lexpriorplain_SameBytes.f k l m) (decide (l = m)) :=
  ⟨l.length + 1, fun k hk => by
    show lexpriorplain_SameBytes.f k l m = _
    unfold lexpriorplain_SameBytes.f
    by_cases e : l.length = m.length
    · rw [if_pos (by omega)]
      have h := sameB_l0 l m e hl l.length k 0 (by omega) (by omega) (by omega)
      simpa using h
    · rw [if_neg (by omega)]
      have : ¬ l = m := fun h => e (by rw [h])
      simp [this]⟩

/-! numbers -/
theorem or128 (a : Int) (h0 : 0 ≤ a) (h1 : a < 256) : Go.bits .or .u8 a 128 = a % 128 + 128 := by
  obtain ⟨n, rfl⟩ := Int.eq_ofNat_of_zero_le h0
  rw [u8_or _ _ h0 h1 (by decide) (by decide)]
  have h : ∀ m : Nat, m < 256 → m ||| 128 = m % 128 + 128 := by decide +kernel
  have := h n (by omega)
  rw [show ((n : Int).toNat ||| (128 : Int).toNat) = n ||| 128 from rfl, this]
  omega
theorem and127_ (a : Int) (h0 : 0 ≤ a) (h1 : a < 256) : Go.bits .and .u8 a 127 = a % 128 := by
  obtain ⟨n, rfl⟩ := Int.eq_ofNat_of_zero_le h0
  rw [u8_and _ _ h0 h1 (by decide) (by decide)]
  have : (n : Int).toNat &&& (127 : Int).toNat = n % 128 := Nat.and_two_pow_sub_one_eq_mod n 7
  rw [this]
  omega

/-- a number's bytes -/
def vlq (n : Nat) : List Int := if h : n < 128 then [(n : Int)] else ((n % 128 + 128 : Nat) : Int) :: vlq (n / 128)
  termination_by n
  decreasing_by omega
theorem vlq_small {n : Nat} (h : n < 128) : vlq n = [(n : Int)] := by rw [vlq, dif_pos h]
theorem vlq_big {n : Nat} (h : ¬ n < 128) : vlq n = ((n % 128 + 128 : Nat) : Int) :: vlq (n / 128) := by rw [vlq, dif_neg h]
theorem vlq_len (d : Nat) : ∀ n : Nat, n < 128 ^ (d + 1) → (vlq n).length ≤ d + 1 := by
  induction d with
  | zero =>
    intro n h
    rw [vlq_small (by omega)]
    simp
  | succ d ih =>
    intro n h
    by_cases hs : n < 128
    · rw [vlq_small hs]; simp
    · rw [vlq_big hs, List.length_cons]
      have := ih (n / 128) (by rw [Nat.div_lt_iff_lt_mul (by decide)]; rw [Nat.pow_succ] at h; exact h)
      omega
theorem vlq_len10 (n : Nat) (h : n < 18446744073709551616) : (vlq n).length ≤ 10 := vlq_len 9 n (Nat.lt_of_lt_of_le h (by decide))
theorem vlq_bytes (n : Nat) : Bytes (vlq n) := by
  induction n using Nat.strongRecOn with
  | _ n ih =>
    by_cases hs : n < 128
    · rw [vlq_small hs]
      intro x hx
      simp only [List.mem_singleton] at hx
      omega
    · rw [vlq_big hs]
      intro x hx
      rcases List.mem_cons.1 hx with rfl | hx
      · omega
      · exact ih (n / 128) (by omega) x hx
theorem uint_l0 (d : Nat) : ∀ (n k : Nat) (acc : List Int), n < 128 ^ (d + 1) → acc.length + d < 140737488355327 → d < k →
    octets_Uint.l0 k (n : Int) acc = some (acc ++ vlq n) := by
  induction d with
  | zero =>
    intro n k acc h h2 hk
    obtain ⟨k, rfl⟩ : ∃ m, k = m + 1 := ⟨k - 1, by omega⟩
    simp only [octets_Uint.l0]
    rw [if_neg (by omega), if_pos (by omega), vlq_small (by omega), show (n : Int) % 256 = n from by omega]
  | succ d ih =>
    intro n k acc h h2 hk
    obtain ⟨k, rfl⟩ : ∃ m, k = m + 1 := ⟨k - 1, by omega⟩
    simp only [octets_Uint.l0]
    by_cases hs : n < 128
    · rw [if_neg (by omega), if_pos (by omega), vlq_small (by omega), show (n : Int) % 256 = n from by omega]
    · rw [if_pos (by omega), if_pos (by omega), or128 _ (by omega) (by omega), show (n : Int) / 128 = ((n / 128 : Nat) : Int) from by omega,
        ih (n / 128) k _ (by rw [Nat.div_lt_iff_lt_mul (by decide)]; rw [Nat.pow_succ] at h; exact h) (by simp; omega) (by omega), vlq_big hs, List.append_assoc]
      congr 2
      simp only [List.singleton_append]
      congr 1
      omega
theorem uint (n : Nat) (h : n < 18446744073709551616) : Ev (fun k => octets_Uint.f k (n : Int)) (vlq n) :=
  ⟨10, fun k hk => by
    unfold octets_Uint.f
    exact uint_l0 9 n k [] (Nat.lt_of_lt_of_le h (by decide)) (by decide) (by omega)⟩
theorem ruint_f (d : Nat) : ∀ (n k : Nat), n < 128 ^ (d + 1) → n < 18446744073709551616 → d ≤ 20 → d < k → lexpriorref01_Uint.f k (n : Int) = some (vlq n) := by
  induction d with
  | zero =>
    intro n k h hn hd hk
    obtain ⟨k, rfl⟩ : ∃ m, k = m + 1 := ⟨k - 1, by omega⟩
    simp only [lexpriorref01_Uint.f]
    rw [if_pos (by omega), vlq_small (by omega), show (n : Int) % 256 = n from by omega]
  | succ d ih =>
    intro n k h hn hd hk
    obtain ⟨k, rfl⟩ : ∃ m, k = m + 1 := ⟨k - 1, by omega⟩
    simp only [lexpriorref01_Uint.f]
    by_cases hs : n < 128
    · rw [if_pos (by omega), vlq_small (by omega), show (n : Int) % 256 = n from by omega]
    · have hb : n / 128 < 128 ^ (d + 1) := by rw [Nat.div_lt_iff_lt_mul (by decide)]; rw [Nat.pow_succ] at h; exact h
      have hw : IntKind.u64.wrap (Int.tdiv (n : Int) 128) = ((n / 128 : Nat) : Int) := by
        rw [Int.tdiv_eq_ediv_of_nonneg (by omega), IntKind.wrap_u64]; omega
      have hm : Go.bits .or .u8 ((Int.tmod (n : Int) 128) % 256) 128 = ((n % 128 + 128 : Nat) : Int) := by
        rw [Int.tmod_eq_emod_of_nonneg (by omega), or128 _ (by omega) (by omega)]; omega
      rw [if_neg (by omega), hw, hm, ih (n / 128) k hb (by omega) (by omega) (by omega), vlq_big hs]
      have hl := vlq_len d (n / 128) hb
      simp only [Option.bind_some]
      rw [if_pos (by simp; omega)]
      rfl
theorem ruint (n : Nat) (h : n < 18446744073709551616) : Ev (fun k => lexpriorref01_Uint.f k (n : Int)) (vlq n) :=
  ⟨10, fun k hk => ruint_f 9 n k (Nat.lt_of_lt_of_le h (by decide)) h (by omega) (by omega)⟩

/-! reading -/
theorem shl_at (x : Int) (i : Nat) (hi : i ≤ 9) : shl .u64 x (wrap64 (7 * (i : Int))) = IntKind.u64.wrap (x * 2 ^ (7 * i)) := by
  unfold shl
  rw [w64 (by omega) (by omega), show (7 * (i : Int)).toNat = 7 * i from by omega, Nat.min_eq_left (show 7 * i ≤ IntKind.u64.bits from by show 7 * i ≤ 64; omega)]
theorem byte_u64 (x : Int) (h0 : 0 ≤ x) (h1 : x ≤ 255) : IntKind.u64.wrap x = x := by rw [IntKind.wrap_u64]; omega
theorem rread_j2 (b : List Int) (hl : b.length ≤ 140737488355328) (a i : Nat) (hi : i ≤ 9) (ha : a + i < b.length) (c n : Int) (c0 : 0 ≤ c) (c1 : c ≤ 255) (k : Nat) (rest : List Int) (flag : Bool) (hf : flag = decide (i = 9 ∧ 1 < c))
    (h : ¬ (i = 9 ∧ 1 < c) → ¬ c < 128 → lexpriorref01_ReadUint.l0 k b a (Go.bits .or .u64 n (IntKind.u64.wrap (c % 128 * 2 ^ (7 * i)))) ((i : Int) + 1) = some (ruGo a b.length rest (i + 1) (Go.bits .or .u64 n (IntKind.u64.wrap (c % 128 * 2 ^ (7 * i)))))) :
    lexpriorref01_ReadUint.j2 (k + 1) b a n i c flag = some (ruGo a b.length (c :: rest) i n) := by
  subst hf
  have w1 : wrap64 (7 * (i : Int)) = 7 * (i : Int) := w64 (by omega) (by omega)
  have hp : 0 ≤ wrap64 (7 * (i : Int)) := by rw [w1]; omega
  have hs : shl .u64 (IntKind.u64.wrap (Int.tmod c 128)) (wrap64 (7 * (i : Int))) = IntKind.u64.wrap (c % 128 * 2 ^ (7 * i)) := by
    rw [shl_at _ i hi, Int.tmod_eq_emod_of_nonneg c0, byte_u64 (c % 128) (by omega) (by omega)]
  have w2 : wrap64 ((wrap64 ((a : Int) + (i : Int))) + 1) = (a : Int) + i + 1 := by rw [w64 (show -9223372036854775808 ≤ (a : Int) + (i : Int) from by omega) (by omega), w64 (by omega) (by omega)]
  have w3 : wrap64 ((i : Int) + 1) = (i : Int) + 1 := w64 (by omega) (by omega)
  simp only [lexpriorref01_ReadUint.j2, ruGo, decide_eq_true_eq, if_pos hp, hs, w2, w3]
  by_cases h9 : i = 9 ∧ 1 < c
  · simp only [if_pos h9]
  · simp only [if_neg h9]
    by_cases hc : c < 128
    · have hc' : ¬ 128 ≤ c := by omega
      have hm : c % 128 = c := by omega
      simp only [if_pos hc, if_neg hc', hm]
      by_cases hz : c = 0
      · by_cases hi0 : 0 < i
        · have hi' : (i : Int) > 0 := by omega
          simp only [if_pos hz, if_pos hi', if_pos (show c = 0 ∧ 0 < i from ⟨hz, hi0⟩)]
        · have hi' : ¬ (i : Int) > 0 := by omega
          simp only [if_pos hz, if_neg hi', if_neg (show ¬ (c = 0 ∧ 0 < i) from fun h => hi0 h.2)]
      · simp only [if_neg hz, if_neg (show ¬ (c = 0 ∧ 0 < i) from fun h => hz h.1)]
    · have hc' : 128 ≤ c := by omega
      simp only [if_neg hc, if_pos hc', and127_ c c0 (by omega)]
      exact h h9 hc
theorem rread_l0 (b : List Int) (hb : Bytes b) (hl : b.length ≤ 140737488355328) (a : Nat) (ha : a ≤ b.length) (d : Nat) : ∀ (k i : Nat) (n : Int), i ≤ 9 → a + i ≤ b.length → 9 - i = d → 2 * d + 2 < k →
    lexpriorref01_ReadUint.l0 k b a n i = some (ruGo a b.length (b.drop (a + i)) i n) := by
  induction d with
  | zero =>
    intro k i n h1 h2 h3 hk
    obtain ⟨k, rfl⟩ : ∃ m, k = m + 2 := ⟨k - 2, by omega⟩
    obtain rfl : i = 9 := by omega
    simp only [lexpriorref01_ReadUint.l0]
    rw [if_pos (by omega), w64 (by omega) (by omega)]
    by_cases hlt : a + 9 < b.length
    · obtain ⟨c0, c1⟩ := hb.rd_ ((a + 9 : Nat) : Int)
      rw [if_neg (by omega), if_pos (by omega), if_pos (by omega), if_pos (by omega), drop_rd _ _ hlt]
      rw [show ((a : Int) + ((9 : Nat) : Int)) = ((a + 9 : Nat) : Int) from by omega]
      exact rread_j2 b hl a 9 (by omega) hlt _ n c0 c1 k _ _ (by simp) (fun h9 hc => by exfalso; apply h9; omega)
    · rw [if_pos (by omega), List.drop_eq_nil_of_le (by omega)]
      simp only [ruGo]
  | succ d ih =>
    intro k i n h1 h2 h3 hk
    obtain ⟨k, rfl⟩ : ∃ m, k = m + 2 := ⟨k - 2, by omega⟩
    simp only [lexpriorref01_ReadUint.l0]
    rw [if_pos (by omega), w64 (by omega) (by omega)]
    by_cases hlt : a + i < b.length
    · obtain ⟨c0, c1⟩ := hb.rd_ ((a + i : Nat) : Int)
      rw [if_neg (by omega), if_pos (by omega), if_pos (by omega), if_neg (by omega), drop_rd _ _ hlt]
      rw [show ((a : Int) + (i : Int)) = ((a + i : Nat) : Int) from by omega]
      refine rread_j2 b hl a i (by omega) hlt _ n c0 c1 k _ _ (by simp; omega) (fun h9 hc => ?_)
      have h := ih k (i + 1) (Go.bits .or .u64 n (IntKind.u64.wrap (rd b ((a + i : Nat) : Int) % 128 * 2 ^ (7 * i)))) (by omega) (by omega) (by omega) (by omega)
      rw [show ((i + 1 : Nat) : Int) = (i : Int) + 1 from by omega] at h
      exact h
    · rw [if_pos (by omega), List.drop_eq_nil_of_le (by omega)]
      simp only [ruGo]
theorem rread (b : List Int) (hb : Bytes b) (hl : b.length ≤ 140737488355328) (at_ : Int) : Ev (fun k => lexpriorref01_ReadUint.f k b at_) (ru b at_) :=
  ⟨40, fun k hk => by
    obtain ⟨k, rfl⟩ : ∃ m, k = m + 1 := ⟨k - 1, by omega⟩
    show lexpriorref01_ReadUint.f (k + 1) b at_ = _
    unfold lexpriorref01_ReadUint.f ru
    simp only [lexpriorref01_ReadUint.j0]
    by_cases h0 : at_ < 0
    · simp only [if_pos h0, if_pos (show at_ < 0 ∨ (b.length : Int) < at_ from .inl h0), if_true]
    · rw [if_neg h0]
      by_cases h1 : (b.length : Int) < at_
      · simp only [decide_eq_true_eq, if_pos (show at_ > (b.length : Int) from h1), if_pos (show at_ < 0 ∨ (b.length : Int) < at_ from .inr h1)]
      · simp only [decide_eq_true_eq, if_neg (show ¬ at_ > (b.length : Int) from h1), if_neg (show ¬ (at_ < 0 ∨ (b.length : Int) < at_) from fun h => h.elim h0 h1)]
        obtain ⟨a, rfl⟩ := Int.eq_ofNat_of_zero_le (show 0 ≤ at_ from by omega)
        have h := rread_l0 b hb hl a (by omega) 9 k 0 0 (by omega) (by omega) (by omega) (by omega)
        rw [Int.toNat_natCast]
        exact h⟩
theorem read (b : List Int) (hb : Bytes b) (at_ : Int) : octets_ReadUint.f b at_ = some (ru b at_) := by
  unfold octets_ReadUint.f
  rw [if_pos hb]
theorem or_range (x y : Int) : 0 ≤ Go.bits .or .u64 x y ∧ Go.bits .or .u64 x y < 18446744073709551616 := by
  simp only [Go.bits]
  rw [IntKind.wrap_u64]
  omega
theorem ruGo_fits (a len : Int) : ∀ (l : List Int) (i : Nat) (n : Int), a + i + l.length = len → (ruGo a len l i n).2.2 = 0 →
    a < (ruGo a len l i n).2.1 ∧ (ruGo a len l i n).2.1 ≤ len ∧ 0 ≤ (ruGo a len l i n).1 ∧ (ruGo a len l i n).1 < 18446744073709551616 := by
  intro l
  induction l with
  | nil => intro i n _ h; simp [ruGo] at h
  | cons c l ih =>
    intro i n hl h
    simp only [List.length_cons] at hl
    unfold ruGo at h ⊢
    by_cases h1 : i = 9 ∧ 1 < c
    · rw [if_pos h1] at h; simp at h
    · simp only [if_neg h1] at h ⊢
      by_cases h2 : 128 ≤ c
      · simp only [if_pos h2] at h ⊢
        exact ih (i + 1) _ (by omega) h
      · simp only [if_neg h2] at h ⊢
        by_cases h3 : c = 0 ∧ 0 < i
        · rw [if_pos h3] at h; simp at h
        · simp only [if_neg h3] at h ⊢
          have := or_range n (IntKind.u64.wrap (c * 2 ^ (7 * i)))
          omega
theorem ru_fits (b : List Int) (at_ : Int) (h : (ru b at_).2.2 = 0) : 0 ≤ at_ ∧ at_ < (ru b at_).2.1 ∧ (ru b at_).2.1 ≤ b.length ∧ 0 ≤ (ru b at_).1 ∧ (ru b at_).1 < 18446744073709551616 := by
  unfold ru at h ⊢
  by_cases h1 : at_ < 0 ∨ (b.length : Int) < at_
  · rw [if_pos h1] at h; simp at h
  · simp only [if_neg h1] at h ⊢
    exact ⟨by omega, ruGo_fits at_ b.length _ 0 0 (by rw [List.length_drop]; omega) h⟩
theorem bytes_wf {l : List Int} (h : ∀ x ∈ l, (Lit.int .u8 x).wf = true) : Bytes l := fun x hx => by
  have := h x hx
  simpa [Lit.wf, IntKind.min, IntKind.max, IntKind.signed, IntKind.bits] using this
end Go.Proofs.Ytccoeecladhfmaa.P
