import Derived.Test.YtpcaonkahhbgfaaPx
import Derived.Laws.BitsAllLaws
import Derived.Test.YtpcaonkahhbgfaaThyP
import Derived.Test.YtpcaonkahhbgfaaOpnB
/- Numbers of 7 bits a byte: what is laid is read as it was, what is read was laid so. -/
namespace Go.Proofs.Ytpcaonkahhbgfaa.P
open Go.RowKit Go.Proofs.YtpcaonkahhbgfaaW.PrintWords Go.Proofs.YtpcaonkahhbgfaaW.PrintLast

theorem w64 {x : Int} (h0 : -9223372036854775808 ≤ x) (h1 : x ≤ 9223372036854775807) : wrap64 x = x := by
  unfold wrap64; omega
theorem rd_lt {l : List Int} {i : Nat} (h : i < l.length) : rd l i = l[i] := by
  unfold rd
  rw [Int.toNat_natCast, List.getD_eq_getElem?_getD, List.getElem?_eq_getElem h]
  rfl

/-! numbers -/
theorem or128 (a : Int) (h0 : 0 ≤ a) (h1 : a < 256) : Go.bits .or .u8 a 128 = a % 128 + 128 := by
  obtain ⟨n, rfl⟩ := Int.eq_ofNat_of_zero_le h0
  rw [u8_or _ _ h0 h1 (by decide) (by decide)]
  have h : ∀ m : Nat, m < 256 → m ||| 128 = m % 128 + 128 := by decide +kernel
  have := h n (by omega)
  rw [show ((n : Int).toNat ||| (128 : Int).toNat) = n ||| 128 from rfl, this]
  omega
theorem and127_ (a : Int) (h0 : 0 ≤ a) (h1 : a < 256) : Go.bits .and .u8 a 127 = a % 128 := by
  obtain ⟨n, rfl⟩ := Int.eq_ofNat_of_zero_le h0
  rw [u8_and _ _ h0 h1 (by decide) (by decide)]
  have : (n : Int).toNat &&& (127 : Int).toNat = n % 128 := Nat.and_two_pow_sub_one_eq_mod n 7
  rw [this]
  omega

/-- a number's bytes -/
def vlq (n : Nat) : List Int := if h : n < 128 then [(n : Int)] else ((n % 128 + 128 : Nat) : Int) :: vlq (n / 128)
  termination_by n
  decreasing_by omega
theorem vlq_small {n : Nat} (h : n < 128) : vlq n = [(n : Int)] := by rw [vlq, dif_pos h]
theorem vlq_big {n : Nat} (h : ¬ n < 128) : vlq n = ((n % 128 + 128 : Nat) : Int) :: vlq (n / 128) := by rw [vlq, dif_neg h]
theorem vlq_len (d : Nat) : ∀ n : Nat, n < 128 ^ (d + 1) → (vlq n).length ≤ d + 1 := by
  induction d with
  | zero =>
    intro n h
    rw [vlq_small (by omega)]
    simp
  | succ d ih =>
    intro n h
    by_cases hs : n < 128
    · rw [vlq_small hs]; simp
    · rw [vlq_big hs, List.length_cons]
      have := ih (n / 128) (by rw [Nat.div_lt_iff_lt_mul (by decide)]; rw [Nat.pow_succ] at h; exact h)
      omega
theorem vlq_len10 (n : Nat) (h : n < 18446744073709551616) : (vlq n).length ≤ 10 := vlq_len 9 n (Nat.lt_of_lt_of_le h (by decide))
theorem vlq_bytes (n : Nat) : Bytes (vlq n) := by
  induction n using Nat.strongRecOn with
  | _ n ih =>
    by_cases hs : n < 128
    · rw [vlq_small hs]
      intro x hx
      simp only [List.mem_singleton] at hx
      omega
    · rw [vlq_big hs]
      intro x hx
      rcases List.mem_cons.1 hx with rfl | hx
      · omega
      · exact ih (n / 128) (by omega) x hx
theorem uint_l0 (d : Nat) : ∀ (n k : Nat) (acc : List Int), n < 128 ^ (d + 1) → acc.length + d < 140737488355327 → d < k →
    octets_Uint.l0 k (n : Int) acc = some (acc ++ vlq n) := by
  induction d with
  | zero =>
    intro n k acc h h2 hk
    obtain ⟨k, rfl⟩ : ∃ m, k = m + 1 := ⟨k - 1, by omega⟩
    simp only [octets_Uint.l0]
    rw [if_neg (by omega), if_pos (by omega), vlq_small (by omega), show (n : Int) % 256 = n from by omega]
  | succ d ih =>
    intro n k acc h h2 hk
    obtain ⟨k, rfl⟩ : ∃ m, k = m + 1 := ⟨k - 1, by omega⟩
    simp only [octets_Uint.l0]
    by_cases hs : n < 128
    · rw [if_neg (by omega), if_pos (by omega), vlq_small (by omega), show (n : Int) % 256 = n from by omega]
    · rw [if_pos (by omega), if_pos (by omega), or128 _ (by omega) (by omega), show (n : Int) / 128 = ((n / 128 : Nat) : Int) from by omega,
        ih (n / 128) k _ (by rw [Nat.div_lt_iff_lt_mul (by decide)]; rw [Nat.pow_succ] at h; exact h) (by simp; omega) (by omega), vlq_big hs, List.append_assoc]
      congr 2
      simp only [List.singleton_append]
      congr 1
      omega
theorem uint (n : Nat) (h : n < 18446744073709551616) : Ev (fun k => octets_Uint.f k (n : Int)) (vlq n) :=
  ⟨10, fun k hk => by
    unfold octets_Uint.f
    exact uint_l0 9 n k [] (Nat.lt_of_lt_of_le h (by decide)) (by decide) (by omega)⟩
theorem wrap_u64 (q : Nat) (h : q < 18446744073709551616) : IntKind.u64.wrap (q : Int) = (q : Int) := by rw [IntKind.wrap_u64]; omega
theorem or_high (n c : Nat) (i : Nat) (hn : n < 2 ^ (7 * i)) (h64 : n + c * 2 ^ (7 * i) < 18446744073709551616) :
    Go.bits .or .u64 (n : Int) (IntKind.u64.wrap ((c : Int) * 2 ^ (7 * i))) = ((n + c * 2 ^ (7 * i) : Nat) : Int) := by
  have e : ((c : Int) * 2 ^ (7 * i)) = ((c * 2 ^ (7 * i) : Nat) : Int) := by rw [Int.natCast_mul, Int.natCast_pow]; rfl
  rw [e]
  have hj : c * 2 ^ (7 * i) ||| n = c * 2 ^ (7 * i) + n := nat_join (7 * i) (c * 2 ^ (7 * i)) n (Nat.mul_mod_left _ _) hn
  generalize c * 2 ^ (7 * i) = q at h64 hj ⊢
  rw [wrap_u64 q (by omega), u64_or _ _ (by omega) (by omega) (by omega) (by omega), Int.toNat_natCast, Int.toNat_natCast, Nat.or_comm, hj, Nat.add_comm]
theorem pow7 (i : Nat) : 2 ^ (7 * (i + 1)) = 128 * 2 ^ (7 * i) := by rw [show 7 * (i + 1) = 7 + 7 * i from by omega, Nat.pow_add]
theorem pow9 (i : Nat) (h : 9 ≤ i) : 9223372036854775808 ≤ 2 ^ (7 * i) := Nat.le_trans (by decide) (Nat.pow_le_pow_right (by decide) (show 63 ≤ 7 * i by omega))
theorem ruGo_back (at_ len : Int) (m : Nat) : ∀ (post : List Int) (i acc : Nat), i ≤ 9 → (i = 0 ∨ m ≠ 0) → acc < 2 ^ (7 * i) → acc + m * 2 ^ (7 * i) < 18446744073709551616 →
    ruGo at_ len (vlq m ++ post) i (acc : Int) = (((acc + m * 2 ^ (7 * i) : Nat) : Int), at_ + i + (vlq m).length, 0) := by
  induction m using Nat.strongRecOn with
  | _ m ih =>
    intro post i acc hi hz hacc h64
    by_cases hs : m < 128
    · have h9 : ¬ (i = 9 ∧ 1 < (m : Int)) := by
        rintro ⟨rfl, h⟩
        have : 2 * 2 ^ (7 * 9) ≤ m * 2 ^ (7 * 9) := Nat.mul_le_mul_right _ (by omega)
        have h2 : 2 * 2 ^ (7 * 9) = 18446744073709551616 := by decide
        omega
      have ho := or_high acc m i hacc h64
      have hz0 : ¬ ((m : Int) = 0 ∧ 0 < i) := fun h => by omega
      have h128 : ¬ (128 : Int) ≤ (m : Int) := by omega
      rw [vlq_small hs]
      simp only [List.cons_append, List.nil_append, ruGo, if_neg h9, if_neg h128, if_neg hz0, ho, List.length_cons, List.length_nil]
      rfl
    · have hi8 : i ≤ 8 := by
        rcases Nat.lt_or_ge i 9 with h | h
        · omega
        · exfalso
          have h1 := pow9 i h
          have h2 : 128 * 2 ^ (7 * i) ≤ m * 2 ^ (7 * i) := Nat.mul_le_mul_right _ (by omega)
          omega
      have hmod : m = m % 128 + 128 * (m / 128) := (Nat.mod_add_div m 128).symm
      have hsum : acc + m * 2 ^ (7 * i) = (acc + (m % 128) * 2 ^ (7 * i)) + (m / 128) * 2 ^ (7 * (i + 1)) := by
        rw [pow7]
        conv => lhs; rw [hmod]
        rw [Nat.add_mul, Nat.mul_comm 128 (m / 128), Nat.mul_assoc, Nat.add_assoc]
      have hacc' : acc + (m % 128) * 2 ^ (7 * i) < 2 ^ (7 * (i + 1)) := by
        have : (m % 128) * 2 ^ (7 * i) ≤ 127 * 2 ^ (7 * i) := Nat.mul_le_mul_right _ (by omega)
        rw [pow7]
        omega
      have h9 : ¬ (i = 9 ∧ 1 < ((m % 128 + 128 : Nat) : Int)) := fun h => by omega
      have h128 : (128 : Int) ≤ ((m % 128 + 128 : Nat) : Int) := by omega
      have hand : Go.bits .and .u8 ((m % 128 + 128 : Nat) : Int) 127 = ((m % 128 : Nat) : Int) := by rw [and127_ _ (by omega) (by omega)]; omega
      have ho := or_high acc (m % 128) i hacc (by rw [hsum] at h64; omega)
      rw [vlq_big hs]
      simp only [List.cons_append, ruGo, if_neg h9, if_pos h128, hand, ho, List.length_cons]
      rw [ih (m / 128) (by omega) post (i + 1) _ (by omega) (.inr (by omega)) hacc' (by rw [← hsum]; exact h64), ← hsum]
      simp only [Prod.mk.injEq, true_and, and_true]
      omega
theorem ru_back (n : Nat) (hn : n < 18446744073709551616) (pre post : List Int) : ru (pre ++ vlq n ++ post) pre.length = ((n : Int), (pre.length : Int) + (vlq n).length, 0) := by
  unfold ru
  rw [if_neg (by simp only [List.length_append]; omega), Int.toNat_natCast, List.append_assoc, List.drop_left]
  have := ruGo_back pre.length (pre ++ (vlq n ++ post)).length n post 0 0 (by omega) (.inl rfl) (by decide) (by simpa using hn)
  simpa using this
/-! what is read was laid so -/
theorem ruGo_read (at_ len : Int) : ∀ (l : List Int) (i acc : Nat), Bytes l → i ≤ 9 → acc < 2 ^ (7 * i) → (ruGo at_ len l i (acc : Int)).2.2 = 0 →
    ∃ m : Nat, (i = 0 ∨ m ≠ 0) ∧ acc + m * 2 ^ (7 * i) < 18446744073709551616 ∧ (ruGo at_ len l i (acc : Int)).1 = ((acc + m * 2 ^ (7 * i) : Nat) : Int) ∧
      (ruGo at_ len l i (acc : Int)).2.1 = at_ + i + (vlq m).length ∧ (vlq m).length ≤ l.length ∧ l.take (vlq m).length = vlq m := by
  intro l
  induction l with
  | nil => intro i acc _ _ _ h; simp [ruGo] at h
  | cons c l ih =>
    intro i acc hb hi hacc h
    have hc := hb c List.mem_cons_self
    have hbl : Bytes l := fun y hy => hb y (List.mem_cons_of_mem _ hy)
    obtain ⟨c, rfl⟩ := Int.eq_ofNat_of_zero_le hc.1
    unfold ruGo at h ⊢
    by_cases h9 : i = 9 ∧ 1 < (c : Int)
    · rw [if_pos h9] at h; simp at h
    · simp only [if_neg h9] at h ⊢
      have h63 : (2 : Nat) ^ (7 * 9) = 9223372036854775808 := by decide
      by_cases h128 : (128 : Int) ≤ (c : Int)
      · simp only [if_pos h128] at h ⊢
        have hi8 : i ≤ 8 := by omega
        have hand : Go.bits .and .u8 (c : Int) 127 = ((c % 128 : Nat) : Int) := by rw [and127_ _ (by omega) (by omega)]; omega
        have hle : (c % 128) * 2 ^ (7 * i) ≤ 127 * 2 ^ (7 * i) := Nat.mul_le_mul_right _ (by omega)
        have hp : 2 ^ (7 * (i + 1)) ≤ 2 ^ (7 * 9) := Nat.pow_le_pow_right (by decide) (by omega)
        have hacc' : acc + (c % 128) * 2 ^ (7 * i) < 2 ^ (7 * (i + 1)) := by rw [pow7]; omega
        have ho := or_high acc (c % 128) i hacc (by omega)
        rw [hand, ho] at h ⊢
        obtain ⟨m, hm, h1, h2, h3, h4, h5⟩ := ih (i + 1) _ hbl (by omega) hacc' h
        have hm0 : m ≠ 0 := by omega
        have hsum : acc + (c % 128 + 128 * m) * 2 ^ (7 * i) = (acc + (c % 128) * 2 ^ (7 * i)) + m * 2 ^ (7 * (i + 1)) := by
          rw [pow7, Nat.add_mul, Nat.mul_comm 128 m, Nat.mul_assoc, Nat.add_assoc]
        have hv : vlq (c % 128 + 128 * m) = (c : Int) :: vlq m := by
          rw [vlq_big (by omega), show (c % 128 + 128 * m) % 128 = c % 128 from by omega, show (c % 128 + 128 * m) / 128 = m from by omega]
          congr 1
          omega
        refine ⟨c % 128 + 128 * m, .inr (by omega), by rw [hsum]; exact h1, by rw [hsum]; exact h2, ?_, ?_, ?_⟩
        · rw [h3, hv, List.length_cons]; omega
        · rw [hv, List.length_cons, List.length_cons]; omega
        · rw [hv, List.length_cons, List.take_succ_cons, h5]
      · simp only [if_neg h128] at h ⊢
        by_cases hz : (c : Int) = 0 ∧ 0 < i
        · rw [if_pos hz] at h; simp at h
        · simp only [if_neg hz] at h ⊢
          have h64 : acc + c * 2 ^ (7 * i) < 18446744073709551616 := by
            rcases Nat.lt_or_ge i 9 with hlt | hge
            · have hle : c * 2 ^ (7 * i) ≤ 127 * 2 ^ (7 * i) := Nat.mul_le_mul_right _ (by omega)
              have hp : 2 ^ (7 * i) ≤ 2 ^ (7 * 8) := Nat.pow_le_pow_right (by decide) (by omega)
              have h56 : (2 : Nat) ^ (7 * 8) = 72057594037927936 := by decide
              omega
            · obtain rfl : i = 9 := by omega
              have hle : c * 2 ^ (7 * 9) ≤ 1 * 2 ^ (7 * 9) := Nat.mul_le_mul_right _ (by omega)
              omega
          have ho := or_high acc c i hacc h64
          rw [ho]
          refine ⟨c, by omega, h64, rfl, ?_, ?_, ?_⟩
          · rw [vlq_small (by omega)]; rfl
          · rw [vlq_small (by omega)]; simp
          · rw [vlq_small (by omega)]; rfl
end Go.Proofs.Ytpcaonkahhbgfaa.P
/- A theory's bytes, plain: what Encode tells of a theory that may be. -/
namespace Go.Proofs.Ytpcaonkahhbgfaa.P
open Go.RowKit Go.Proofs.YtpcaonkahhbgfaaW.PrintWords Go.Proofs.Ytpcaonkahhbgfaa.K
set_option linter.unusedVariables false
set_option linter.unusedSimpArgs false

/-- A theory that may be. -/
structure Fine (a0 : Int) (fo : List (List Int)) (rs : List S36) (be : List (List Int)) : Prop where
  an : 0 ≤ a0 ∧ a0 ≤ 4096
  len : (fo.length : Int) = a0
  row : ∀ r, r ∈ fo → r.length ≤ 64 ∧ (∀ x, x ∈ r → 0 ≤ x ∧ x < a0) ∧ r.Pairwise (· < ·)
  self : ∀ q : Nat, q < fo.length → (q : Int) ∉ nxL fo q
  sym : ∀ q : Nat, q < fo.length → ∀ f, f ∈ nxL fo q → (q : Int) ∈ nxL fo f
  r4 : rs.length ≤ 4096
  rule : ∀ r, r ∈ rs → (1 ≤ r.f0 ∧ r.f0 ≤ 3) ∧ (0 ≤ r.f1 ∧ r.f1 < a0) ∧ r.f2.length ≤ 16 ∧ (∀ x, x ∈ r.f2 → 0 ≤ x ∧ x < a0) ∧ r.f2.Pairwise (· < ·)
  bl : be.length = rs.length
  bea : ∀ b, b ∈ be → (∀ x, x ∈ b → 0 ≤ x ∧ x < rs.length) ∧ b.Pairwise (· < ·)
theorem fine_of {a0 : Int} {fo be : List (List Int)} {rs : List S36} (h : (chkS a0 fo rs be).1 = 0) : Fine a0 fo rs be := by
  obtain ⟨hp, hb, hf, hbe, _⟩ := check_pre h
  have hb0 := fun (q : Nat) (hq : q < fo.length) => (fstB_neg (p := fun q => badFoe a0 fo q) (d := fo.length) (i := 0)).1 (by unfold foesS at hf; omega) q (by omega) (by omega)
  refine ⟨hp.an, hp.len, fun r hr => ⟨(hp.row r hr).1, ris_iff.1 (hp.row r hr).2⟩, fun q hq hm => ?_, fun q hq f hm => ?_, hp.r4, fun r hr => ?_, hb, fun b hm => ?_⟩
  · have := hb0 q hq
    unfold badFoe at this
    simp only [Bool.or_eq_false_iff] at this
    have h2 := this.1.2
    rw [List.contains_iff_mem.2 hm] at h2
    cases h2
  · have := hb0 q hq
    unfold badFoe at this
    simp only [Bool.or_eq_false_iff] at this
    have h2 := List.any_eq_false.1 this.2 f hm
    simp only [Bool.not_eq_true, Bool.not_eq_false'] at h2
    exact List.contains_iff_mem.1 h2
  · obtain ⟨h1, h2, h3, h4⟩ := rule_of (hp.rule r hr)
    exact ⟨h1, h2, h3, ris_iff.1 h4⟩
  · have := ris_iff.1 (beats_in hb hbe b hm)
    exact ⟨fun x hx => by have := this.1 x hx; omega, this.2⟩
/-! the bytes -/
def uP (n : Int) : List Int := vlq n.toNat
def numsP (l : List Int) : List Int := l.flatMap uP
def lisP (l : List Int) : List Int := vlq l.length ++ numsP l
def abv (q : Int) (l : List Int) : List Int := l.filter (fun f => decide (q < f))
def foesP : Nat → List (List Int) → List Int
  | _, [] => []
  | q, l :: ls => lisP (abv q l) ++ foesP (q + 1) ls
def rulP : List S36 → List Int
  | [] => []
  | r :: rs => uP r.f0 ++ (uP r.f1 ++ (lisP r.f2 ++ rulP rs))
def beaP : List (List Int) → List Int
  | [] => []
  | l :: ls => lisP l ++ beaP ls
def encP (a0 : Int) (fo : List (List Int)) (rs : List S36) (be : List (List Int)) : List Int := [116, 104, 121, 1] ++ (uP a0 ++ (foesP 0 fo ++ (vlq rs.length ++ (rulP rs ++ beaP be))))
theorem uP_len {n : Int} (h : n < 18446744073709551616) : (uP n).length ≤ 10 := vlq_len10 _ (by omega)
theorem numsP_len : ∀ {l : List Int}, (∀ x, x ∈ l → x ≤ 1000000) → (numsP l).length ≤ 10 * l.length
  | [], _ => by simp [numsP]
  | x :: l, h => by
    have h1 := numsP_len (l := l) (fun y hy => h y (List.mem_cons_of_mem _ hy))
    have h2 := uP_len (n := x) (by have := h x List.mem_cons_self; omega)
    have e : numsP (x :: l) = uP x ++ numsP l := by simp [numsP]
    rw [e, List.length_append, List.length_cons]; omega
theorem lisP_len {l : List Int} (h : ∀ x, x ∈ l → x ≤ 1000000) (hl : l.length ≤ 1000000) : (lisP l).length ≤ 10 + 10 * l.length := by
  have h1 := numsP_len h
  have h2 := vlq_len10 l.length (by omega)
  unfold lisP
  rw [List.length_append]; omega
theorem abv_mem {q x : Int} {l : List Int} : x ∈ abv q l ↔ x ∈ l ∧ q < x := by simp [abv]
theorem abv_len (q : Int) (l : List Int) : (abv q l).length ≤ l.length := List.length_filter_le _ _
theorem foesP_len {a0 : Int} (ha : a0 ≤ 4096) : ∀ {ls : List (List Int)} (q : Nat), (∀ r, r ∈ ls → r.length ≤ 64 ∧ (∀ x, x ∈ r → 0 ≤ x ∧ x < a0)) → (foesP q ls).length ≤ 650 * ls.length
  | [], _, _ => by simp [foesP]
  | l :: ls, q, h => by
    have h1 := foesP_len ha (ls := ls) (q + 1) (fun r hr => h r (List.mem_cons_of_mem _ hr))
    have h0 := h l List.mem_cons_self
    have h3 := abv_len q l
    have h2 := lisP_len (l := abv q l) (fun x hx => by have := h0.2 x (abv_mem.1 hx).1; omega) (by omega)
    simp only [foesP, List.length_append, List.length_cons]; omega
theorem rulP_len {a0 : Int} (ha : a0 ≤ 4096) : ∀ {rs : List S36}, (∀ r, r ∈ rs → (1 ≤ r.f0 ∧ r.f0 ≤ 3) ∧ (0 ≤ r.f1 ∧ r.f1 < a0) ∧ r.f2.length ≤ 16 ∧ (∀ x, x ∈ r.f2 → 0 ≤ x ∧ x < a0) ∧ r.f2.Pairwise (· < ·)) → (rulP rs).length ≤ 190 * rs.length
  | [], _ => by simp [rulP]
  | r :: rs, h => by
    have h1 := rulP_len ha (rs := rs) (fun r hr => h r (List.mem_cons_of_mem _ hr))
    obtain ⟨a1, a2, a3, a4, _⟩ := h r List.mem_cons_self
    have h2 := lisP_len (l := r.f2) (fun x hx => by have := a4 x hx; omega) (by omega)
    have h3 := uP_len (n := r.f0) (by omega)
    have h4 := uP_len (n := r.f1) (by omega)
    simp only [rulP, List.length_append, List.length_cons]; omega
theorem pair_len {m : Nat} {l : List Int} (h : (∀ x, x ∈ l → 0 ≤ x ∧ x < m) ∧ l.Pairwise (· < ·)) : l.length ≤ m := nodup_len' m l (h.2.imp (fun h e => by omega)) h.1
theorem beaP_len {m : Nat} (hm : m ≤ 4096) : ∀ {be : List (List Int)}, (∀ b, b ∈ be → (∀ x, x ∈ b → 0 ≤ x ∧ x < m) ∧ b.Pairwise (· < ·)) → (beaP be).length ≤ 50000 * be.length
  | [], _ => by simp [beaP]
  | b :: be, h => by
    have h1 := beaP_len hm (be := be) (fun r hr => h r (List.mem_cons_of_mem _ hr))
    have h0 := h b List.mem_cons_self
    have hl := pair_len h0
    have h2 := lisP_len (l := b) (fun x hx => by have := h0.1 x hx; omega) (by omega)
    simp only [beaP, List.length_append, List.length_cons]; omega
theorem vlq_pos (n : Nat) : 0 < (vlq n).length := by
  by_cases h : n < 128
  · rw [vlq_small h]; simp
  · rw [vlq_big h]; simp
theorem bytes_app {a b : List Int} (ha : Bytes a) (hb : Bytes b) : Bytes (a ++ b) := fun x hx => (List.mem_append.1 hx).elim (ha x) (hb x)
theorem numsP_bytes (l : List Int) : Bytes (numsP l) := fun x hx => by
  obtain ⟨y, _, hy⟩ := List.mem_flatMap.1 hx
  exact vlq_bytes _ x hy
theorem lisP_bytes (l : List Int) : Bytes (lisP l) := bytes_app (vlq_bytes _) (numsP_bytes l)
theorem foesP_bytes : ∀ (ls : List (List Int)) (q : Nat), Bytes (foesP q ls)
  | [], _ => fun x hx => by simp [foesP] at hx
  | l :: ls, q => bytes_app (lisP_bytes _) (foesP_bytes ls (q + 1))
theorem rulP_bytes : ∀ (rs : List S36), Bytes (rulP rs)
  | [] => fun x hx => by simp [rulP] at hx
  | r :: rs => bytes_app (vlq_bytes _) (bytes_app (vlq_bytes _) (bytes_app (lisP_bytes _) (rulP_bytes rs)))
theorem beaP_bytes : ∀ (be : List (List Int)), Bytes (beaP be)
  | [] => fun x hx => by simp [beaP] at hx
  | b :: be => bytes_app (lisP_bytes _) (beaP_bytes be)
theorem encP_bytes (a0 : Int) (fo : List (List Int)) (rs : List S36) (be : List (List Int)) : Bytes (encP a0 fo rs be) := by
  refine bytes_app (fun x hx => ?_) (bytes_app (vlq_bytes _) (bytes_app (foesP_bytes _ _) (bytes_app (vlq_bytes _) (bytes_app (rulP_bytes _) (beaP_bytes _)))))
  simp only [List.mem_cons, List.not_mem_nil, or_false] at hx
  omega
theorem encP_len {a0 : Int} {fo be : List (List Int)} {rs : List S36} (h : Fine a0 fo rs be) : (encP a0 fo rs be).length ≤ 300000000 := by
  have h1 := foesP_len h.an.2 (ls := fo) 0 (fun r hr => ⟨(h.row r hr).1, (h.row r hr).2.1⟩)
  have h2 := rulP_len h.an.2 h.rule
  have h3 := beaP_len h.r4 h.bea
  have h4 := uP_len (n := a0) (by have := h.an; omega)
  have h5 := vlq_len10 rs.length (by have := h.r4; omega)
  have := h.an
  have := h.len
  have := h.r4
  have := h.bl
  unfold encP
  simp only [List.length_append, List.length_cons, List.length_nil]
  omega
/-! what the walk's functions tell -/
theorem u_ev {n : Int} (h0 : 0 ≤ n) (h1 : n ≤ 1000000) : Ev (fun k => uuF k n) (uP n) := by
  unfold uuF uP
  have e : IntKind.u64.wrap n = ((n.toNat : Nat) : Int) := by rw [IntKind.wrap_u64]; omega
  rw [e]
  exact uint _ (by omega)
theorem nums_ev : ∀ {l : List Int}, (∀ x, x ∈ l → 0 ≤ x ∧ x ≤ 1000000) → Ev (fun k => numsB k l) (numsP l)
  | [], _ => by simp only [numsB, numsP, List.flatMap_nil]; exact Ev.now _
  | x :: l, h => by
    have hx := h x List.mem_cons_self
    have e : numsP (x :: l) = uP x ++ numsP l := by simp [numsP]
    rw [e]
    simp only [numsB]
    exact Ev.bind (u_ev hx.1 hx.2) (Ev.bind (nums_ev (fun y hy => h y (List.mem_cons_of_mem _ hy))) (Ev.now _))
theorem lis_ev {l : List Int} (h : ∀ x, x ∈ l → 0 ≤ x ∧ x ≤ 1000000) (hl : l.length ≤ 1000000) : Ev (fun k => lisB k l) (lisP l) := by
  unfold lisB lisP
  have := u_ev (n := (l.length : Int)) (by omega) (by omega)
  unfold uP at this
  rw [Int.toNat_natCast] at this
  exact Ev.bind this (Ev.bind (nums_ev h) (Ev.now _))
theorem drop_abv {l : List Int} {q : Int} {p : Nat} (hp : p ≤ l.length) (h1 : ∀ i, i < p → rd l (i : Int) < q) (h2 : ∀ i, p ≤ i → i < l.length → q ≤ rd l (i : Int)) (hq : q ∉ l) : l.drop p = abv q l := by
  unfold abv
  conv => rhs; rw [← List.take_append_drop p l, List.filter_append]
  have e1 : (l.take p).filter (fun f => decide (q < f)) = [] := by
    rw [List.filter_eq_nil_iff]
    intro x hx
    obtain ⟨i, hi, e⟩ := List.getElem_of_mem hx
    rw [List.getElem_take] at e
    have hi' : i < p := by rw [List.length_take] at hi; omega
    have := h1 i hi'
    rw [rd_lt (by omega), e] at this
    simp; omega
  have e2 : (l.drop p).filter (fun f => decide (q < f)) = l.drop p := by
    rw [List.filter_eq_self]
    intro x hx
    obtain ⟨i, hi, e⟩ := List.getElem_of_mem hx
    rw [List.getElem_drop] at e
    have hi' : p + i < l.length := by rw [List.length_drop] at hi; omega
    have := h2 (p + i) (by omega) hi'
    rw [rd_lt hi', e] at this
    have hne : x ≠ q := fun e2 => hq (by rw [← e2]; exact List.mem_of_mem_drop hx)
    simp; omega
  rw [e1, e2, List.nil_append]
theorem foes_ev2 {a0 : Int} (ha : a0 ≤ 4096) : ∀ {ls : List (List Int)} (q : Nat), (∀ (j : Nat) (r : List Int), ls[j]? = some r → r.length ≤ 64 ∧ (∀ x, x ∈ r → 0 ≤ x ∧ x < a0) ∧ r.Pairwise (· < ·) ∧ ((q + j : Nat) : Int) ∉ r) → Ev (fun k => foesB k q ls) (foesP q ls)
  | [], _, _ => by simp only [foesB, foesP]; exact Ev.now _
  | l :: ls, q, h => by
    obtain ⟨a1, a2, a3, a4⟩ := h 0 l rfl
    obtain ⟨p, p1, p2, p3, p4⟩ := search_ev (q : Int) (by omega) a3
    have hd := drop_abv p1 p2 p3 (by simpa using a4)
    simp only [foesB, foesP]
    refine Ev.bind p4 ?_
    have hb : (0 : Int) ≤ (p : Int) ∧ (p : Int) ≤ (l.length : Int) := ⟨by omega, by omega⟩
    simp only [if_pos hb, Int.toNat_natCast, hd]
    have hl := abv_len q l
    exact Ev.bind (lis_ev (fun x hx => by have := a2 x (abv_mem.1 hx).1; omega) (by omega)) (Ev.bind (foes_ev2 ha (q + 1) (fun j r hj => by
      have := h (j + 1) r (by simpa using hj)
      rw [show q + (j + 1) = q + 1 + j by omega] at this
      exact this)) (Ev.now _))
theorem rul_ev {a0 : Int} (ha : a0 ≤ 4096) : ∀ {rs : List S36}, (∀ r, r ∈ rs → (1 ≤ r.f0 ∧ r.f0 ≤ 3) ∧ (0 ≤ r.f1 ∧ r.f1 < a0) ∧ r.f2.length ≤ 16 ∧ (∀ x, x ∈ r.f2 → 0 ≤ x ∧ x < a0) ∧ r.f2.Pairwise (· < ·)) → Ev (fun k => rulB k rs) (rulP rs)
  | [], _ => by simp only [rulB, rulP]; exact Ev.now _
  | r :: rs, h => by
    obtain ⟨a1, a2, a3, a4, _⟩ := h r List.mem_cons_self
    simp only [rulB, rulP]
    exact Ev.bind (u_ev (by omega) (by omega)) (Ev.bind (u_ev (by omega) (by omega)) (Ev.bind (lis_ev (fun x hx => by have := a4 x hx; omega) (by omega)) (Ev.bind (rul_ev ha (fun r hr => h r (List.mem_cons_of_mem _ hr))) (Ev.now _))))
theorem bea_ev {m : Nat} (hm : m ≤ 4096) : ∀ {be : List (List Int)}, (∀ b, b ∈ be → (∀ x, x ∈ b → 0 ≤ x ∧ x < m) ∧ b.Pairwise (· < ·)) → Ev (fun k => beaB k be) (beaP be)
  | [], _ => by simp only [beaB, beaP]; exact Ev.now _
  | b :: be, h => by
    have h0 := h b List.mem_cons_self
    have hl := pair_len h0
    simp only [beaB, beaP]
    exact Ev.bind (lis_ev (fun x hx => by have := h0.1 x hx; omega) (by omega)) (Ev.bind (bea_ev hm (fun r hr => h r (List.mem_cons_of_mem _ hr))) (Ev.now _))
theorem encB_ev {a0 : Int} {fo be : List (List Int)} {rs : List S36} (h : Fine a0 fo rs be) : Ev (fun k => encB k a0 fo rs be) (encP a0 fo rs be) := by
  unfold encB encP
  have hl := encP_len h
  unfold encP at hl
  have hm := u_ev (n := (rs.length : Int)) (by omega) (by have := h.r4; omega)
  have e : uP (rs.length : Int) = vlq rs.length := by unfold uP; rw [Int.toNat_natCast]
  rw [e] at hm
  refine Ev.bind (u_ev h.an.1 (by have := h.an; omega)) (Ev.bind (foes_ev2 h.an.2 0 (fun j r hj => ?_)) (Ev.bind hm (Ev.bind (rul_ev h.an.2 h.rule) (Ev.bind (bea_ev h.r4 h.bea) ?_))))
  · have hr := List.mem_of_getElem? hj
    have hjl : j < fo.length := (List.getElem?_eq_some_iff.1 hj).1
    have hs := h.self j hjl
    have en : nxL fo (j : Int) = r := by simp [nxL, List.getD_eq_getElem?_getD, hj]
    rw [en] at hs
    exact ⟨(h.row r hr).1, (h.row r hr).2.1, (h.row r hr).2.2, by rw [Nat.zero_add]; exact hs⟩
  · have hp : 0 < (uP a0).length := vlq_pos _
    rw [if_pos ⟨hp, by simp only [List.length_append, List.length_cons, List.length_nil] at hl ⊢; omega⟩]
    exact Ev.now _
theorem encode_ev {a0 : Int} {fo be : List (List Int)} {rs : List S36} (hf : WfRows fo) (hb : WfRows be) : Ev (fun k => theory_Encode.f k a0 fo rs be) (if (chkS a0 fo rs be).1 = 0 then (encP a0 fo rs be, 0) else ([], (chkS a0 fo rs be).1)) := by
  unfold theory_Encode.f
  refine Ev.bind (check_ev hf hb) ?_
  by_cases h : (chkS a0 fo rs be).1 = 0
  · simp only [if_pos h]
    exact Ev.bind (encB_ev (fine_of h)) (Ev.now _)
  · simp only [if_neg h]
    exact Ev.now _
end Go.Proofs.Ytpcaonkahhbgfaa.P
/- A theory's bytes, plain: what Decode reads was laid so, and what is laid is read so. -/
namespace Go.Proofs.Ytpcaonkahhbgfaa.P
open Go.RowKit Go.Proofs.YtpcaonkahhbgfaaW.PrintWords Go.Proofs.Ytpcaonkahhbgfaa.K
set_option linter.unusedVariables false
set_option linter.unusedSimpArgs false

/-! numbers and lists, back -/
theorem num_bk {l : List Int} {p n : Nat} {least most e : Int} {rest : List Int} (hp : p ≤ l.length) (h : l.drop p = vlq n ++ rest) (h0 : 0 ≤ least) (h1 : least ≤ n) (h2 : (n : Int) ≤ most) (hm : most ≤ 1000000) :
    numT l p least most e = .ok ((n : Int), ((p + (vlq n).length : Nat) : Int)) ∧ p + (vlq n).length ≤ l.length ∧ l.drop (p + (vlq n).length) = rest := by
  have hl : l = l.take p ++ vlq n ++ rest := by rw [List.append_assoc, ← h, List.take_append_drop]
  have hr := ru_back n (by omega) (l.take p) rest
  rw [← hl, List.length_take, Nat.min_eq_left hp] at hr
  refine ⟨?_, ?_, ?_⟩
  · unfold numT
    rw [hr]
    simp only
    rw [if_neg (by decide), IntKind.wrap_u64, IntKind.wrap_u64, if_neg (by omega), if_neg (by omega), if_neg (by omega), w64 (by omega) (by omega)]
    rfl
  · have := congrArg List.length h
    rw [List.length_drop, List.length_append] at this
    omega
  · rw [← List.drop_drop, h, List.drop_left' rfl]
theorem num_rd {l : List Int} (hb : Bytes l) {p : Nat} {least most e v q : Int} (h : numT l p least most e = .ok (v, q)) (hp : p ≤ l.length) (h0 : 0 ≤ least) (hl1 : least ≤ 1000000) (hm : most ≤ 1000000) :
    ∃ n q' : Nat, v = n ∧ q = q' ∧ least ≤ n ∧ (n : Int) ≤ most ∧ p ≤ q' ∧ q' ≤ l.length ∧ l.drop p = vlq n ++ l.drop q' := by
  have hr := numT_rng h h0 hm hl1
  unfold numT at h
  simp only at h
  by_cases h1 : (ru l p).2.2 ≠ 0
  · rw [if_pos h1] at h; cases h
  · rw [if_neg h1] at h
    have h1 : (ru l p).2.2 = 0 := Classical.not_not.1 h1
    have e : ru l p = ruGo p l.length (l.drop p) 0 ((0 : Nat) : Int) := by
      unfold ru
      rw [if_neg (by omega), Int.toNat_natCast]
      rfl
    rw [e] at h1 h
    obtain ⟨n, _, g1, g2, g3, g4, g5⟩ := ruGo_read p l.length (l.drop p) 0 0 (fun x hx => hb x (List.mem_of_mem_drop hx)) (by omega) (by decide) h1
    simp only [Nat.mul_zero, Nat.pow_zero, Nat.mul_one, Nat.zero_add] at g1 g2
    rw [g2, g3, IntKind.wrap_u64, IntKind.wrap_u64] at h
    by_cases h2 : (n : Int) < least % 18446744073709551616
    · rw [if_pos h2] at h; cases h
    rw [if_neg h2] at h
    by_cases h3 : most % 18446744073709551616 < (n : Int)
    · rw [if_pos h3] at h; cases h
    rw [if_neg h3] at h
    by_cases h4 : most < least
    · rw [if_pos h4] at h; cases h
    rw [if_neg h4, w64 (by omega) (by omega)] at h
    obtain ⟨rfl, rfl⟩ := Prod.mk.inj (Except.ok.inj h)
    rw [List.length_drop] at g4
    refine ⟨n, p + (vlq n).length, rfl, by omega, by omega, by omega, by omega, by omega, ?_⟩
    rw [← List.drop_drop, ← List.take_append_drop (vlq n).length (l.drop p), g5]
    congr 1
    rw [List.drop_left' rfl]
theorem ruGo_er (a len : Int) : ∀ (l : List Int) (i : Nat) (n : Int), (ruGo a len l i n).2.2 ≠ 0 → (ruGo a len l i n).2.1 = len ∨ (ruGo a len l i n).2.1 = a
  | [], _, _, _ => .inl rfl
  | c :: l, i, n, h => by
    unfold ruGo at h ⊢
    by_cases h1 : i = 9 ∧ 1 < c
    · simp [if_pos h1]
    · simp only [if_neg h1] at h ⊢
      by_cases h2 : 128 ≤ c
      · simp only [if_pos h2] at h ⊢
        exact ruGo_er a len l (i + 1) _ h
      · simp only [if_neg h2] at h ⊢
        by_cases h3 : c = 0 ∧ 0 < i
        · simp [if_pos h3]
        · simp [if_neg h3] at h
theorem num_er {l : List Int} {p least most e er q : Int} (h : numT l p least most e = .error (er, q)) (h0 : 0 ≤ p) (hp : p ≤ l.length) (he : e ≠ 0) : er ≠ 0 ∧ 0 ≤ q ∧ q ≤ l.length := by
  unfold numT at h
  simp only at h
  by_cases h1 : (ru l p).2.2 ≠ 0
  · rw [if_pos h1] at h
    simp only [Except.error.injEq, Prod.mk.injEq] at h
    obtain ⟨rfl, rfl⟩ := h
    refine ⟨h1, ?_⟩
    unfold ru at h1 ⊢
    rw [if_neg (by omega)] at h1 ⊢
    rcases ruGo_er _ _ _ _ _ h1 with h | h <;> rw [h] <;> omega
  · rw [if_neg h1] at h
    split at h
    · simp only [Except.error.injEq, Prod.mk.injEq] at h; obtain ⟨rfl, rfl⟩ := h; exact ⟨he, h0, hp⟩
    · split at h
      · simp only [Except.error.injEq, Prod.mk.injEq] at h; obtain ⟨rfl, rfl⟩ := h; exact ⟨he, h0, hp⟩
      · split at h
        · simp only [Except.error.injEq, Prod.mk.injEq] at h; obtain ⟨rfl, rfl⟩ := h; exact ⟨he, h0, hp⟩
        · cases h
theorem lisT_bk {l : List Int} {n er : Int} (hn0 : 0 ≤ n) (hn : n ≤ 1000000) : ∀ (xs : List Int) (p : Nat) (least : Int) (rest : List Int), p ≤ l.length → 0 ≤ least → (∀ x, x ∈ xs → least ≤ x ∧ x < n) → xs.Pairwise (· < ·) → l.drop p = numsP xs ++ rest →
    lisT l n er xs.length p least = .ok (xs, ((p + (numsP xs).length : Nat) : Int)) ∧ p + (numsP xs).length ≤ l.length ∧ l.drop (p + (numsP xs).length) = rest
  | [], p, least, rest, hp, _, _, _, h => ⟨rfl, hp, h⟩
  | x :: xs, p, least, rest, hp, h0, hx, hs, h => by
    have hxx := hx x List.mem_cons_self
    have e : numsP (x :: xs) = vlq x.toNat ++ numsP xs := by simp [numsP, uP]
    rw [e, List.append_assoc] at h
    have ew : wrap64 (n - 1) = n - 1 := by unfold wrap64; omega
    obtain ⟨a1, a2, a3⟩ := num_bk (least := least) (most := n - 1) (e := er) hp h h0 (by omega) (by omega) (by omega)
    have hpw := List.pairwise_cons.1 hs
    obtain ⟨b1, b2, b3⟩ := lisT_bk hn0 hn xs _ (x + 1) rest a2 (by omega) (fun y hy => ⟨by have := hpw.1 y hy; omega, (hx y (List.mem_cons_of_mem _ hy)).2⟩) hpw.2 a3
    have el : p + (numsP (x :: xs)).length = p + (vlq x.toNat).length + (numsP xs).length := by rw [e, List.length_append]; omega
    rw [el]
    refine ⟨?_, b2, b3⟩
    show lisT l n er (xs.length + 1) p least = _
    simp only [lisT, ew, a1]
    rw [show ((x.toNat : Nat) : Int) = x by omega, show wrap64 (x + 1) = x + 1 by unfold wrap64; omega, b1]
theorem listT_bk {l : List Int} {most least n er : Int} (hn0 : 0 ≤ n) (hn : n ≤ 1000000) (hm : most ≤ 1000000) {xs : List Int} {p : Nat} {rest : List Int} (hp : p ≤ l.length) (h0 : 0 ≤ least) (hx : ∀ x, x ∈ xs → least ≤ x ∧ x < n) (hs : xs.Pairwise (· < ·)) (hl : (xs.length : Int) ≤ most) (h : l.drop p = lisP xs ++ rest) :
    listT l p most least n er = .ok (xs, ((p + (lisP xs).length : Nat) : Int)) ∧ p + (lisP xs).length ≤ l.length ∧ l.drop (p + (lisP xs).length) = rest := by
  unfold lisP at h ⊢
  rw [List.append_assoc] at h
  obtain ⟨a1, a2, a3⟩ := num_bk (least := 0) (most := most) (e := 3) hp h (by omega) (by omega) hl hm
  obtain ⟨b1, b2, b3⟩ := lisT_bk (er := er) hn0 hn xs _ least rest a2 h0 hx hs a3
  rw [List.length_append, ← Nat.add_assoc]
  refine ⟨?_, b2, b3⟩
  unfold listT
  simp only [a1, Int.toNat_natCast]
  exact b1
theorem lisT_rd {l : List Int} (hb : Bytes l) {n er : Int} (hn0 : 0 ≤ n) (hn : n ≤ 1000000) : ∀ (d p : Nat) (least : Int) (xs : List Int) (q : Int), lisT l n er d p least = .ok (xs, q) → p ≤ l.length → 0 ≤ least → least ≤ 1000000 →
    ∃ q' : Nat, q = q' ∧ p ≤ q' ∧ q' ≤ l.length ∧ xs.length = d ∧ (∀ x, x ∈ xs → least ≤ x ∧ x < n) ∧ xs.Pairwise (· < ·) ∧ l.drop p = numsP xs ++ l.drop q'
  | 0, p, least, xs, q, h, hp, _, _ => by
    simp only [lisT, Except.ok.injEq, Prod.mk.injEq] at h
    obtain ⟨rfl, rfl⟩ := h
    exact ⟨p, rfl, Nat.le_refl _, hp, rfl, by simp, List.Pairwise.nil, rfl⟩
  | d + 1, p, least, xs, q, h, hp, h0, h1 => by
    have ew : wrap64 (n - 1) = n - 1 := by unfold wrap64; omega
    simp only [lisT, ew] at h
    rcases hx : numT l p least (n - 1) er with z | ⟨x, p1⟩
    · rw [hx] at h; cases h
    rw [hx] at h
    simp only at h
    obtain ⟨m, p1', rfl, rfl, a1, a2, a3, a4, a5⟩ := num_rd hb hx hp h0 h1 (by omega)
    rw [show wrap64 ((m : Int) + 1) = (m : Int) + 1 by unfold wrap64; omega] at h
    rcases hy : lisT l n er d p1' ((m : Int) + 1) with z | ⟨ys, p2⟩
    · rw [hy] at h; cases h
    rw [hy] at h
    simp only [Except.ok.injEq, Prod.mk.injEq] at h
    obtain ⟨rfl, rfl⟩ := h
    obtain ⟨q', rfl, b1, b2, b3, b4, b5, b6⟩ := lisT_rd hb hn0 hn d p1' _ ys p2 hy a4 (by omega) (by omega)
    refine ⟨q', rfl, by omega, b2, by simp [b3], fun y hy => ?_, List.pairwise_cons.2 ⟨fun y hy => by have := (b4 y hy).1; omega, b5⟩, ?_⟩
    · rcases List.mem_cons.1 hy with rfl | hy
      · omega
      · have := b4 y hy; omega
    · have e : numsP ((m : Int) :: ys) = vlq m ++ numsP ys := by simp [numsP, uP]
      rw [e, List.append_assoc, ← b6, a5]
theorem listT_rd {l : List Int} (hb : Bytes l) {p : Nat} {most least n er : Int} {xs : List Int} {q : Int} (h : listT l p most least n er = .ok (xs, q)) (hp : p ≤ l.length) (hm : most ≤ 1000000) (hn0 : 0 ≤ n) (hn : n ≤ 1000000) (h0 : 0 ≤ least) (h1 : least ≤ 1000000) :
    ∃ q' : Nat, q = q' ∧ p ≤ q' ∧ q' ≤ l.length ∧ (xs.length : Int) ≤ most ∧ (∀ x, x ∈ xs → least ≤ x ∧ x < n) ∧ xs.Pairwise (· < ·) ∧ l.drop p = lisP xs ++ l.drop q' := by
  unfold listT at h
  rcases hx : numT l p 0 most 3 with z | ⟨c, p1⟩
  · rw [hx] at h; cases h
  rw [hx] at h
  simp only at h
  obtain ⟨m, p1', rfl, rfl, a1, a2, a3, a4, a5⟩ := num_rd hb hx hp (by omega) (by omega) hm
  rw [Int.toNat_natCast] at h
  obtain ⟨q', rfl, b1, b2, b3, b4, b5, b6⟩ := lisT_rd hb hn0 hn m p1' _ xs q h a4 h0 h1
  refine ⟨q', rfl, by omega, b2, by omega, b4, b5, ?_⟩
  unfold lisP
  rw [List.append_assoc, ← b6, b3, a5]
theorem lisT_er {l : List Int} {n er e q : Int} (he : er ≠ 0) (hb : Bytes l) (hn0 : 0 ≤ n) (hn : n ≤ 1000000) : ∀ {d : Nat} {p : Nat} {least : Int}, lisT l n er d p least = .error (e, q) → p ≤ l.length → 0 ≤ least → least ≤ 1000000 → e ≠ 0 ∧ 0 ≤ q ∧ q ≤ l.length
  | 0, p, least, h, _, _, _ => by cases h
  | d + 1, p, least, h, hp, h0, h1 => by
    have ew : wrap64 (n - 1) = n - 1 := by unfold wrap64; omega
    simp only [lisT, ew] at h
    rcases hx : numT l p least (n - 1) er with z | ⟨x, p1⟩
    · rw [hx] at h
      obtain rfl := Except.error.inj h
      exact num_er hx (by omega) (by omega) he
    rw [hx] at h
    simp only at h
    obtain ⟨m, p1', rfl, rfl, a1, a2, a3, a4, a5⟩ := num_rd hb hx hp h0 h1 (by omega)
    rw [show wrap64 ((m : Int) + 1) = (m : Int) + 1 by unfold wrap64; omega] at h
    rcases hy : lisT l n er d p1' ((m : Int) + 1) with z | ⟨ys, p2⟩
    · rw [hy] at h
      obtain rfl := Except.error.inj h
      exact lisT_er he hb hn0 hn hy a4 (by omega) (by omega)
    · rw [hy] at h; cases h
theorem listT_er {l : List Int} {p : Nat} {most least n er e q : Int} (h : listT l p most least n er = .error (e, q)) (he : er ≠ 0) (hb : Bytes l) (hp : p ≤ l.length) (hm : most ≤ 1000000) (hn0 : 0 ≤ n) (hn : n ≤ 1000000) (h0 : 0 ≤ least) (h1 : least ≤ 1000000) : e ≠ 0 ∧ 0 ≤ q ∧ q ≤ l.length := by
  unfold listT at h
  rcases hx : numT l p 0 most 3 with z | ⟨c, p1⟩
  · rw [hx] at h
    obtain rfl := Except.error.inj h
    exact num_er hx (by omega) (by omega) (by decide)
  rw [hx] at h
  simp only at h
  obtain ⟨m, p1', rfl, rfl, a1, a2, a3, a4, a5⟩ := num_rd hb hx hp (by omega) (by omega) hm
  rw [Int.toNat_natCast] at h
  exact lisT_er he hb hn0 hn h a4 h0 h1
/-! the foes, built from the lists above -/
theorem nxL_set {F : List (List Int)} {i j : Nat} (hi : i < F.length) (r : List Int) : nxL (F.set i r) (j : Int) = if j = i then r else nxL F (j : Int) := by
  unfold nxL
  rw [Int.toNat_natCast, List.getD_eq_getElem?_getD, List.getD_eq_getElem?_getD, List.getElem?_set]
  by_cases h : i = j
  · subst h; simp [hi]
  · rw [if_neg h, if_neg (fun e => h e.symm)]
theorem addF_len (q f : Int) (F : List (List Int)) : (addF q f F).length = F.length := by simp [addF]
theorem addF_row {q f x : Nat} {F : List (List Int)} (hq : q < F.length) (hf : f < F.length) (hne : q ≠ f) : nxL (addF q f F) (x : Int) = nxL F (x : Int) ++ (if x = q then [(f : Int)] else if x = f then [(q : Int)] else []) := by
  unfold addF
  simp only [Int.toNat_natCast]
  have ef : rd_L1 (F.set q (rd_L1 F (q : Int) ++ [(f : Int)])) (f : Int) = nxL F (f : Int) := by rw [rdL, nxL_set hq, if_neg (fun e => hne e.symm)]
  rw [nxL_set (by rw [List.length_set]; exact hf), ef, nxL_set hq, rdL]
  by_cases h1 : x = f
  · subst h1
    rw [if_pos rfl, if_neg (fun e => hne e.symm), if_pos rfl]
  · rw [if_neg h1, if_neg h1]
    by_cases h2 : x = q
    · subst h2; rw [if_pos rfl, if_pos rfl]
    · rw [if_neg h2, if_neg h2, List.append_nil]
theorem addFs_len (q : Int) : ∀ (a : List Int) (F : List (List Int)), (addFs q a F).length = F.length
  | [], F => rfl
  | f :: a, F => by simp only [addFs]; rw [addFs_len q a, addF_len]
theorem addFs_row {q x : Nat} : ∀ {a : List Int} {F : List (List Int)}, q < F.length → (∀ f, f ∈ a → (q : Int) < f ∧ f < F.length) → a.Nodup → nxL (addFs q a F) (x : Int) = nxL F (x : Int) ++ (if x = q then a else if (x : Int) ∈ a then [(q : Int)] else [])
  | [], F, _, _, _ => by simp [addFs]
  | f :: a, F, hq, hf, hn => by
    have hff := hf f List.mem_cons_self
    obtain ⟨g, rfl⟩ := Int.eq_ofNat_of_zero_le (show 0 ≤ f by omega)
    have hn' := List.nodup_cons.1 hn
    simp only [addFs]
    rw [addFs_row (a := a) (by rw [addF_len]; exact hq) (fun y hy => by rw [addF_len]; exact hf y (List.mem_cons_of_mem _ hy)) hn'.2, addF_row hq (by omega) (by omega), List.append_assoc]
    congr 1
    by_cases h1 : x = q
    · simp [h1]
    · simp only [if_neg h1, List.mem_cons]
      by_cases h2 : x = g
      · subst h2
        simp [hn'.1]
      · have : ¬ (x : Int) = (g : Int) := by omega
        simp [h2, this]
def bld : Nat → List (List Int) → List (List Int) → List (List Int)
  | _, [], F => F
  | q, a :: bs, F => bld (q + 1) bs (addFs q a F)
/-- What row x gets of the lists from the q-th on. -/
def con : Nat → List (List Int) → Nat → List Int
  | _, [], _ => []
  | q, a :: bs, x => (if x = q then a else if (x : Int) ∈ a then [(q : Int)] else []) ++ con (q + 1) bs x
/-- The lists above: each one's numbers rise, above its own, below n. -/
def AbvOk (n : Nat) : Nat → List (List Int) → Prop
  | _, [] => True
  | q, a :: bs => ((∀ f, f ∈ a → (q : Int) < f ∧ f < n) ∧ a.Pairwise (· < ·)) ∧ AbvOk n (q + 1) bs
theorem bld_len : ∀ (bs : List (List Int)) (q : Nat) (F : List (List Int)), (bld q bs F).length = F.length
  | [], q, F => rfl
  | a :: bs, q, F => by simp only [bld]; rw [bld_len, addFs_len]
theorem bld_row {n x : Nat} : ∀ {bs : List (List Int)} {q : Nat} {F : List (List Int)}, F.length = n → q + bs.length ≤ n → AbvOk n q bs → nxL (bld q bs F) (x : Int) = nxL F (x : Int) ++ con q bs x
  | [], q, F, _, _, _ => by simp [bld, con]
  | a :: bs, q, F, hF, hl, h => by
    obtain ⟨⟨h1, h2⟩, h3⟩ := h
    simp only [List.length_cons] at hl
    simp only [bld, con]
    rw [bld_row (n := n) (by rw [addFs_len]; exact hF) (by omega) h3, addFs_row (by omega) (by rw [hF]; exact h1) (h2.imp (fun h e => by omega)), List.append_assoc]
theorem con_nil {n x : Nat} : ∀ {bs : List (List Int)} {q : Nat}, x < q → AbvOk n q bs → con q bs x = []
  | [], _, _, _ => rfl
  | a :: bs, q, hx, h => by
    obtain ⟨⟨h1, h2⟩, h3⟩ := h
    simp only [con]
    rw [if_neg (by omega), if_neg (fun hm => by have := (h1 _ hm).1; omega), con_nil (by omega) h3]
    rfl
theorem con_lb {n x : Nat} : ∀ {bs : List (List Int)} {q : Nat}, q ≤ x → AbvOk n q bs → ∀ z, z ∈ con q bs x → (q : Int) ≤ z
  | [], _, _, _, z, hz => by simp [con] at hz
  | a :: bs, q, hx, h, z, hz => by
    obtain ⟨⟨h1, h2⟩, h3⟩ := h
    simp only [con] at hz
    by_cases e : x = q
    · rw [if_pos e, con_nil (by omega) h3, List.append_nil] at hz
      have := (h1 z hz).1; omega
    · rw [if_neg e] at hz
      rcases List.mem_append.1 hz with hz | hz
      · split at hz
        · rw [List.mem_singleton.1 hz]; omega
        · cases hz
      · have := con_lb (by omega) h3 z hz; omega
theorem con_pw {n x : Nat} : ∀ {bs : List (List Int)} {q : Nat}, q ≤ x → AbvOk n q bs → (con q bs x).Pairwise (· < ·)
  | [], _, _, _ => List.Pairwise.nil
  | a :: bs, q, hx, h => by
    obtain ⟨⟨h1, h2⟩, h3⟩ := h
    simp only [con]
    by_cases e : x = q
    · rw [if_pos e, con_nil (by omega) h3, List.append_nil]; exact h2
    · rw [if_neg e]
      have hr := con_pw (x := x) (q := q + 1) (by omega) h3
      by_cases hm : (x : Int) ∈ a
      · rw [if_pos hm]
        exact List.pairwise_cons.2 ⟨fun z hz => by have := con_lb (by omega) h3 z hz; omega, hr⟩
      · rw [if_neg hm]; exact hr
theorem con_abv {n x : Nat} : ∀ {bs : List (List Int)} {q : Nat}, q ≤ x → AbvOk n q bs → abv x (con q bs x) = bs.getD (x - q) []
  | [], q, _, _ => by simp [con, abv]
  | a :: bs, q, hx, h => by
    obtain ⟨⟨h1, h2⟩, h3⟩ := h
    simp only [con]
    by_cases e : x = q
    · subst e
      rw [if_pos rfl, con_nil (by omega) h3, List.append_nil, Nat.sub_self]
      unfold abv
      rw [List.filter_eq_self.2 (fun f hf => by simpa using (h1 f hf).1)]
      rfl
    · rw [if_neg e]
      have : abv (x : Int) (if (x : Int) ∈ a then [(q : Int)] else []) = [] := by
        split
        · unfold abv; rw [List.filter_eq_nil_iff]; intro y hy; rw [List.mem_singleton.1 hy]; simp; omega
        · rfl
      have hap : ∀ u v : List Int, abv (x : Int) (u ++ v) = abv (x : Int) u ++ abv (x : Int) v := fun u v => List.filter_append _ _
      rw [hap, this, List.nil_append, con_abv (by omega) h3, show x - q = (x - (q + 1)) + 1 by omega]
      rfl
theorem con_mem {n x : Nat} {z : Int} : ∀ {bs : List (List Int)} {q : Nat}, q ≤ x → AbvOk n q bs → (z ∈ con q bs x ↔ (∃ j : Nat, q ≤ j ∧ j < x ∧ j - q < bs.length ∧ z = (j : Int) ∧ (x : Int) ∈ bs.getD (j - q) []) ∨ (x - q < bs.length ∧ z ∈ bs.getD (x - q) []))
  | [], q, _, _ => by simp [con]
  | a :: bs, q, hx, h => by
    obtain ⟨⟨h1, h2⟩, h3⟩ := h
    simp only [con]
    by_cases e : x = q
    · subst e
      rw [if_pos rfl, con_nil (by omega) h3, List.append_nil, Nat.sub_self]
      constructor
      · intro hz; exact .inr ⟨by simp, hz⟩
      · rintro (⟨j, j1, j2, _⟩ | ⟨_, hz⟩)
        · omega
        · exact hz
    · rw [if_neg e, List.mem_append, con_mem (by omega) h3]
      have e1 : x - q = (x - (q + 1)) + 1 := by omega
      constructor
      · rintro (hz | ⟨j, j1, j2, j3, j4, j5⟩ | ⟨hl, hz⟩)
        · split at hz
          · rename_i hm
            exact .inl ⟨q, Nat.le_refl _, by omega, by simp, List.mem_singleton.1 hz, by rw [Nat.sub_self]; exact hm⟩
          · cases hz
        · exact .inl ⟨j, by omega, j2, by simp only [List.length_cons]; omega, j4, by rw [show j - q = (j - (q + 1)) + 1 by omega]; exact j5⟩
        · exact .inr ⟨by rw [e1]; simpa using hl, by rw [e1]; exact hz⟩
      · rintro (⟨j, j1, j2, j3, j4, j5⟩ | ⟨hl, hz⟩)
        · by_cases ej : j = q
          · subst ej
            rw [Nat.sub_self] at j5
            have hm : (x : Int) ∈ a := j5
            exact .inl (by rw [if_pos hm, j4]; simp)
          · rw [show j - q = (j - (q + 1)) + 1 by omega] at j3 j5
            exact .inr (.inl ⟨j, by omega, j2, by simpa using j3, j4, j5⟩)
        · rw [e1] at hl hz
          exact .inr (.inr ⟨by simpa using hl, hz⟩)
/-- Two rising lists of the same numbers are one. -/
theorem rise_ext : ∀ {a b : List Int}, a.Pairwise (· < ·) → b.Pairwise (· < ·) → (∀ z, z ∈ a ↔ z ∈ b) → a = b
  | [], [], _, _, _ => rfl
  | [], y :: b, _, _, h => absurd ((h y).2 List.mem_cons_self) (by simp)
  | x :: a, [], _, _, h => absurd ((h x).1 List.mem_cons_self) (by simp)
  | x :: a, y :: b, ha, hb, h => by
    have ha' := List.pairwise_cons.1 ha
    have hb' := List.pairwise_cons.1 hb
    have e : x = y := by
      rcases List.mem_cons.1 ((h x).1 List.mem_cons_self) with e | hx
      · exact e
      · rcases List.mem_cons.1 ((h y).2 List.mem_cons_self) with e | hy
        · exact e.symm
        · have := hb'.1 x hx; have := ha'.1 y hy; omega
    subst e
    congr 1
    refine rise_ext ha'.2 hb'.2 (fun z => ⟨fun hz => ?_, fun hz => ?_⟩)
    · rcases List.mem_cons.1 ((h z).1 (List.mem_cons_of_mem _ hz)) with e | hz'
      · have := ha'.1 z hz; omega
      · exact hz'
    · rcases List.mem_cons.1 ((h z).2 (List.mem_cons_of_mem _ hz)) with e | hz'
      · have := hb'.1 z hz; omega
      · exact hz'
theorem nxL_nil (m : Nat) (x : Int) : nxL (List.replicate m []) x = [] := by
  unfold nxL
  rw [List.getD_eq_getElem?_getD, List.getElem?_replicate]
  split <;> rfl
theorem nxL_get {F : List (List Int)} {x : Nat} (h : x < F.length) : nxL F (x : Int) = F[x] := by
  simp [nxL, List.getD_eq_getElem?_getD, List.getElem?_eq_getElem h]
def absOf : Nat → List (List Int) → List (List Int)
  | _, [] => []
  | q, l :: ls => abv q l :: absOf (q + 1) ls
theorem absOf_len : ∀ (ls : List (List Int)) (q : Nat), (absOf q ls).length = ls.length
  | [], _ => rfl
  | l :: ls, q => by simp [absOf, absOf_len ls]
theorem absOf_get : ∀ (ls : List (List Int)) (q j : Nat), j < ls.length → (absOf q ls).getD j [] = abv ((q + j : Nat) : Int) (ls.getD j [])
  | [], _, _, h => by simp at h
  | l :: ls, q, 0, _ => by simp [absOf]
  | l :: ls, q, j + 1, h => by
    have := absOf_get ls (q + 1) j (by simpa using h)
    rw [show q + (j + 1) = q + 1 + j by omega]
    exact this
theorem foesP_abs : ∀ (ls : List (List Int)) (q : Nat), foesP q ls = (absOf q ls).flatMap lisP
  | [], _ => rfl
  | l :: ls, q => by simp [foesP, absOf, foesP_abs ls]
theorem absOf_ok {n : Nat} : ∀ (ls : List (List Int)) (q : Nat), (∀ r, r ∈ ls → (∀ x, x ∈ r → 0 ≤ x ∧ x < n) ∧ r.Pairwise (· < ·)) → AbvOk n q (absOf q ls)
  | [], _, _ => trivial
  | l :: ls, q, h => ⟨⟨fun f hf => ⟨(abv_mem.1 hf).2, ((h l List.mem_cons_self).1 f (abv_mem.1 hf).1).2⟩, (h l List.mem_cons_self).2.filter _⟩, absOf_ok ls (q + 1) (fun r hr => h r (List.mem_cons_of_mem _ hr))⟩
/-- The lists above of a theory that may be build its foes. -/
theorem bld_back {a0 : Int} {fo be : List (List Int)} {rs : List S36} (h : Fine a0 fo rs be) : bld 0 (absOf 0 fo) (List.replicate fo.length []) = fo := by
  have hok : AbvOk fo.length 0 (absOf 0 fo) := absOf_ok fo 0 (fun r hr => by rw [h.len]; exact (h.row r hr).2)
  apply List.ext_getElem
  · rw [bld_len, List.length_replicate]
  · intro x h1 h2
    have hr := bld_row (x := x) (F := List.replicate fo.length []) (by rw [List.length_replicate]) (by rw [absOf_len]; omega) hok
    rw [nxL_get h1, nxL_nil, List.nil_append] at hr
    rw [hr]
    have hrow := h.row _ (List.getElem_mem h2)
    have e2 : nxL fo (x : Int) = fo[x] := nxL_get h2
    have eg : ∀ j : Nat, j < fo.length → (absOf 0 fo).getD j [] = abv (j : Int) (nxL fo (j : Int)) := fun j hj => by
      rw [absOf_get fo 0 j hj, Nat.zero_add]; simp [nxL]
    refine rise_ext (con_pw (Nat.zero_le _) hok) hrow.2.2 (fun z => ?_)
    rw [con_mem (Nat.zero_le _) hok, absOf_len]
    simp only [Nat.sub_zero]
    constructor
    · rintro (⟨j, _, j2, j3, rfl, j5⟩ | ⟨_, hz⟩)
      · rw [eg j j3] at j5
        have := h.sym j j3 _ (abv_mem.1 j5).1
        rwa [e2] at this
      · rw [eg x h2, e2] at hz
        exact (abv_mem.1 hz).1
    · intro hz
      have hb := hrow.2.1 z hz
      obtain ⟨j, rfl⟩ := Int.eq_ofNat_of_zero_le hb.1
      have hjl : j < fo.length := by have := h.len; omega
      have hne : j ≠ x := fun e => by subst e; exact h.self j h2 (by rw [e2]; exact hz)
      by_cases hjx : j < x
      · have hs := h.sym x h2 (j : Int) (by rw [e2]; exact hz)
        exact .inl ⟨j, by omega, hjx, hjl, rfl, by rw [eg j hjl]; exact abv_mem.2 ⟨hs, by omega⟩⟩
      · exact .inr ⟨h2, by rw [eg x h2, e2]; exact abv_mem.2 ⟨hz, by omega⟩⟩
/-- What was built of lists has them above. -/
theorem bld_fwd {n : Nat} {bs : List (List Int)} (hl : bs.length = n) (h : AbvOk n 0 bs) : absOf 0 (bld 0 bs (List.replicate n [])) = bs := by
  apply List.ext_getElem
  · rw [absOf_len, bld_len, List.length_replicate, hl]
  · intro x h1 h2
    have hx : x < (bld 0 bs (List.replicate n [])).length := by rw [absOf_len] at h1; exact h1
    have hg := absOf_get (bld 0 bs (List.replicate n [])) 0 x hx
    rw [List.getD_eq_getElem?_getD, List.getElem?_eq_getElem h1, Nat.zero_add] at hg
    simp only [Option.getD_some] at hg
    have hr := bld_row (x := x) (F := List.replicate n []) (by rw [List.length_replicate]) (by omega) h
    rw [nxL_nil, List.nil_append] at hr
    have hn : (bld 0 bs (List.replicate n [])).getD x [] = con 0 bs x := by rw [← hr]; simp [nxL]
    rw [hg, hn, con_abv (Nat.zero_le _) h, Nat.sub_zero, List.getD_eq_getElem?_getD, List.getElem?_eq_getElem h2]
    rfl
/-! the foes' bytes -/
theorem foesT_bk {l : List Int} {n : Nat} (hn : n ≤ 4096) : ∀ (bs : List (List Int)) (q p : Nat) (F : List (List Int)) (rest : List Int), p ≤ l.length → q + bs.length ≤ n → AbvOk n q bs → (∀ a, a ∈ bs → a.length ≤ 64) → l.drop p = bs.flatMap lisP ++ rest →
    foesT l n bs.length q p F = .ok (bld q bs F, ((p + (bs.flatMap lisP).length : Nat) : Int)) ∧ p + (bs.flatMap lisP).length ≤ l.length ∧ l.drop (p + (bs.flatMap lisP).length) = rest
  | [], q, p, F, rest, hp, _, _, _, h => ⟨rfl, hp, h⟩
  | a :: bs, q, p, F, rest, hp, hq, hok, hl, h => by
    obtain ⟨⟨h1, h2⟩, h3⟩ := hok
    simp only [List.length_cons] at hq
    rw [List.flatMap_cons, List.append_assoc] at h
    obtain ⟨a1, a2, a3⟩ := listT_bk (most := 64) (least := (q : Int) + 1) (n := n) (er := 121) (by omega) (by omega) (by omega) hp (by omega) (fun x hx => by have := h1 x hx; omega) h2 (by have := hl a List.mem_cons_self; omega) h
    obtain ⟨b1, b2, b3⟩ := foesT_bk hn bs (q + 1) _ (addFs q a F) rest a2 (by omega) h3 (fun a ha => hl a (List.mem_cons_of_mem _ ha)) a3
    have el : p + (List.flatMap lisP (a :: bs)).length = p + (lisP a).length + (bs.flatMap lisP).length := by rw [List.flatMap_cons, List.length_append]; omega
    rw [el]
    refine ⟨?_, b2, b3⟩
    show foesT l n (bs.length + 1) q p F = _
    simp only [foesT, a1, bld]
    rw [show (q : Int) + 1 = ((q + 1 : Nat) : Int) by omega]
    exact b1
theorem foesT_rd {l : List Int} (hb : Bytes l) {n : Nat} (hn : n ≤ 4096) : ∀ (d q p : Nat) (F F' : List (List Int)) (p' : Int), foesT l n d q p F = .ok (F', p') → p ≤ l.length → q + d ≤ n →
    ∃ (bs : List (List Int)) (q' : Nat), p' = q' ∧ p ≤ q' ∧ q' ≤ l.length ∧ bs.length = d ∧ AbvOk n q bs ∧ (∀ a, a ∈ bs → a.length ≤ 64) ∧ F' = bld q bs F ∧ l.drop p = bs.flatMap lisP ++ l.drop q'
  | 0, q, p, F, F', p', h, hp, _ => by
    simp only [foesT, Except.ok.injEq, Prod.mk.injEq] at h
    obtain ⟨rfl, rfl⟩ := h
    exact ⟨[], p, rfl, Nat.le_refl _, hp, rfl, trivial, by simp, rfl, rfl⟩
  | d + 1, q, p, F, F', p', h, hp, hq => by
    simp only [foesT] at h
    rcases hx : listT l p 64 ((q : Int) + 1) n 121 with z | ⟨a, p1⟩
    · rw [hx] at h; cases h
    rw [hx] at h
    simp only at h
    obtain ⟨p1', rfl, a1, a2, a3, a4, a5, a6⟩ := listT_rd hb hx hp (by omega) (by omega) (by omega) (by omega) (by omega)
    rw [show (q : Int) + 1 = ((q + 1 : Nat) : Int) by omega] at h
    obtain ⟨bs, q', rfl, b1, b2, b3, b4, b5, b6, b7⟩ := foesT_rd hb hn d (q + 1) p1' _ F' p' h a2 (by omega)
    exact ⟨a :: bs, q', rfl, by omega, b2, by simp [b3], ⟨⟨fun f hf => by have := a4 f hf; omega, a5⟩, b4⟩, fun x hx => by
      rcases List.mem_cons.1 hx with rfl | hx
      · omega
      · exact b5 x hx, b6, by rw [List.flatMap_cons, List.append_assoc, ← b7, a6]⟩
theorem foesT_er {l : List Int} (hb : Bytes l) {n : Nat} (hn : n ≤ 4096) {e p' : Int} : ∀ (d q p : Nat) (F : List (List Int)), foesT l n d q p F = .error (e, p') → p ≤ l.length → q + d ≤ n → e ≠ 0 ∧ 0 ≤ p' ∧ p' ≤ l.length
  | 0, q, p, F, h, _, _ => by cases h
  | d + 1, q, p, F, h, hp, hq => by
    simp only [foesT] at h
    rcases hx : listT l p 64 ((q : Int) + 1) n 121 with z | ⟨a, p1⟩
    · rw [hx] at h
      obtain rfl := Except.error.inj h
      exact listT_er hx (by decide) hb hp (by omega) (by omega) (by omega) (by omega) (by omega)
    rw [hx] at h
    simp only at h
    obtain ⟨p1', rfl, a1, a2, a3, a4, a5, a6⟩ := listT_rd hb hx hp (by omega) (by omega) (by omega) (by omega) (by omega)
    rw [show (q : Int) + 1 = ((q + 1 : Nat) : Int) by omega] at h
    exact foesT_er hb hn d (q + 1) p1' _ h a2 (by omega)
end Go.Proofs.Ytpcaonkahhbgfaa.P
/- A theory's bytes, plain: the whole of them, there and back. -/
namespace Go.Proofs.Ytpcaonkahhbgfaa.P
open Go.RowKit Go.Proofs.YtpcaonkahhbgfaaW.PrintWords Go.Proofs.Ytpcaonkahhbgfaa.K
set_option linter.unusedVariables false
set_option linter.unusedSimpArgs false

theorem thyHd_at : thyHd 0 = 116 ∧ thyHd 1 = 104 ∧ thyHd 2 = 121 ∧ thyHd 3 = 1 := ⟨by kernel_rfl, by kernel_rfl, by kernel_rfl, by kernel_rfl⟩
theorem headT_one {l : List Int} {d i : Nat} (h : i < l.length) (he : rd l i = thyHd i) : headT l (d + 1) i = headT l d (i + 1) := by
  simp only [headT]
  rw [if_neg (by omega), if_neg (by simpa using he)]
theorem headT_bk {l rest : List Int} (h : l = [116, 104, 121, 1] ++ rest) : headT l 4 0 = .ok () := by
  obtain ⟨h0, h1, h2, h3⟩ := thyHd_at
  have hl : l.length = rest.length + 4 := by rw [h]; simp
  rw [headT_one (i := 0) (by omega) (by rw [h0, h]; rfl), headT_one (i := 1) (by omega) (by rw [h1, h]; rfl), headT_one (i := 2) (by omega) (by rw [h2, h]; rfl), headT_one (i := 3) (by omega) (by rw [h3, h]; rfl)]
  rfl
theorem headT_step {l : List Int} {d i : Nat} (h : headT l (d + 1) i = .ok ()) : i < l.length ∧ rd l i = thyHd i ∧ headT l d (i + 1) = .ok () := by
  simp only [headT] at h
  by_cases h1 : (l.length : Int) ≤ i
  · rw [if_pos h1] at h; cases h
  rw [if_neg h1] at h
  by_cases h2 : rd l i ≠ thyHd i
  · rw [if_pos h2] at h; cases h
  rw [if_neg h2] at h
  exact ⟨by omega, Classical.not_not.1 h2, h⟩
theorem headT_rd {l : List Int} (h : headT l 4 0 = .ok ()) : 4 ≤ l.length ∧ l = [116, 104, 121, 1] ++ l.drop 4 := by
  obtain ⟨h0, h1, h2, h3⟩ := thyHd_at
  obtain ⟨a1, a2, h⟩ := headT_step h
  obtain ⟨b1, b2, h⟩ := headT_step h
  obtain ⟨c1, c2, h⟩ := headT_step h
  obtain ⟨d1, d2, h⟩ := headT_step h
  rw [rd_lt a1, h0] at a2
  rw [rd_lt b1, h1] at b2
  rw [rd_lt c1, h2] at c2
  rw [rd_lt d1, h3] at d2
  refine ⟨by omega, ?_⟩
  have e := List.drop_eq_getElem_cons a1
  rw [List.drop_zero, a2, List.drop_eq_getElem_cons b1, b2, List.drop_eq_getElem_cons c1, c2, List.drop_eq_getElem_cons d1, d2] at e
  exact e
theorem headT_er {l : List Int} {e q : Int} : ∀ {d i : Nat}, headT l d i = .error (e, q) → e ≠ 0 ∧ 0 ≤ q ∧ q ≤ l.length
  | 0, _, h => by cases h
  | d + 1, i, h => by
    simp only [headT] at h
    by_cases h1 : (l.length : Int) ≤ i
    · rw [if_pos h1] at h
      simp only [Except.error.injEq, Prod.mk.injEq] at h
      obtain ⟨rfl, rfl⟩ := h
      omega
    rw [if_neg h1] at h
    by_cases h2 : rd l i ≠ thyHd i
    · rw [if_pos h2] at h
      simp only [Except.error.injEq, Prod.mk.injEq] at h
      obtain ⟨rfl, rfl⟩ := h
      omega
    · rw [if_neg h2] at h
      exact headT_er h
/-! rules -/
def RuleOk (a0 : Int) (r : S36) : Prop := (1 ≤ r.f0 ∧ r.f0 ≤ 3) ∧ (0 ≤ r.f1 ∧ r.f1 < a0) ∧ r.f2.length ≤ 16 ∧ (∀ x, x ∈ r.f2 → 0 ≤ x ∧ x < a0) ∧ r.f2.Pairwise (· < ·)
theorem ruleT_bk {l : List Int} {a0 : Int} (ha : 0 ≤ a0 ∧ a0 ≤ 4096) {r : S36} {p : Nat} {rest : List Int} (hr : RuleOk a0 r) (hp : p ≤ l.length) (h : l.drop p = uP r.f0 ++ (uP r.f1 ++ (lisP r.f2 ++ rest))) :
    ∃ q : Nat, ruleT l a0 p = .ok (r, (q : Int)) ∧ q ≤ l.length ∧ l.drop q = rest ∧ q = p + (uP r.f0).length + (uP r.f1).length + (lisP r.f2).length := by
  obtain ⟨r1, r2, r3, r4, r5⟩ := hr
  obtain ⟨a1, a2, a3⟩ := num_bk (least := 1) (most := 3) (e := 122) hp h (by omega) (by omega) (by omega) (by omega)
  obtain ⟨b1, b2, b3⟩ := num_bk (least := 0) (most := a0 - 1) (e := 122) a2 a3 (by omega) (by omega) (by omega) (by omega)
  obtain ⟨c1, c2, c3⟩ := listT_bk (most := 16) (least := 0) (n := a0) (er := 122) ha.1 (by omega) (by omega) b2 (by omega) r4 r5 (by omega) b3
  refine ⟨_, ?_, c2, c3, rfl⟩
  unfold ruleT
  simp only [a1, b1, c1]
  have e1 : ((r.f0.toNat : Nat) : Int) = r.f0 := by omega
  have e2 : ((r.f1.toNat : Nat) : Int) = r.f1 := by omega
  rw [e1, e2]
theorem ruleT_rd {l : List Int} (hb : Bytes l) {a0 : Int} (ha : 0 ≤ a0 ∧ a0 ≤ 4096) {r : S36} {p : Nat} {q : Int} (hp : p ≤ l.length) (h : ruleT l a0 p = .ok (r, q)) :
    ∃ q' : Nat, q = q' ∧ q' ≤ l.length ∧ RuleOk a0 r ∧ l.drop p = uP r.f0 ++ (uP r.f1 ++ (lisP r.f2 ++ l.drop q')) := by
  unfold ruleT at h
  rcases h1 : numT l p 1 3 122 with z | ⟨k, p1⟩
  · rw [h1] at h; cases h
  rw [h1] at h
  simp only at h
  obtain ⟨k', p1', rfl, rfl, a1, a2, a3, a4, a5⟩ := num_rd hb h1 hp (by omega) (by omega) (by omega)
  rcases h2 : numT l p1' 0 (a0 - 1) 122 with z | ⟨m, p2⟩
  · rw [h2] at h; cases h
  rw [h2] at h
  simp only at h
  obtain ⟨m', p2', rfl, rfl, b1, b2, b3, b4, b5⟩ := num_rd hb h2 a4 (by omega) (by omega) (by omega)
  rcases h3 : listT l p2' 16 0 a0 122 with z | ⟨bs, p3⟩
  · rw [h3] at h; cases h
  rw [h3] at h
  simp only [Except.ok.injEq, Prod.mk.injEq] at h
  obtain ⟨rfl, rfl⟩ := h
  obtain ⟨p3', rfl, c1, c2, c3, c4, c5, c6⟩ := listT_rd hb h3 b4 (by omega) ha.1 (by omega) (by omega) (by omega)
  refine ⟨p3', rfl, c2, ⟨⟨a1, a2⟩, ⟨b1, by show (m' : Int) < a0; omega⟩, by show bs.length ≤ 16; omega, c4, c5⟩, ?_⟩
  simp only [uP, Int.toNat_natCast]
  rw [← c6, ← b5, a5]
theorem ruleT_er {l : List Int} (hb : Bytes l) {a0 : Int} (ha : 0 ≤ a0 ∧ a0 ≤ 4096) {p : Nat} {e q : Int} (hp : p ≤ l.length) (h : ruleT l a0 p = .error (e, q)) : e ≠ 0 ∧ 0 ≤ q ∧ q ≤ l.length := by
  unfold ruleT at h
  rcases h1 : numT l p 1 3 122 with z | ⟨k, p1⟩
  · rw [h1] at h
    obtain rfl := Except.error.inj h
    exact num_er h1 (by omega) (by omega) (by decide)
  rw [h1] at h
  simp only at h
  obtain ⟨k', p1', rfl, rfl, a1, a2, a3, a4, a5⟩ := num_rd hb h1 hp (by omega) (by omega) (by omega)
  rcases h2 : numT l p1' 0 (a0 - 1) 122 with z | ⟨m, p2⟩
  · rw [h2] at h
    obtain rfl := Except.error.inj h
    exact num_er h2 (by omega) (by omega) (by decide)
  rw [h2] at h
  simp only at h
  obtain ⟨m', p2', rfl, rfl, b1, b2, b3, b4, b5⟩ := num_rd hb h2 a4 (by omega) (by omega) (by omega)
  rcases h3 : listT l p2' 16 0 a0 122 with z | ⟨bs, p3⟩
  · rw [h3] at h
    obtain rfl := Except.error.inj h
    exact listT_er h3 (by decide) hb b4 (by omega) ha.1 (by omega) (by omega) (by omega)
  · rw [h3] at h; cases h
theorem rulesT_bk {l : List Int} {a0 : Int} (ha : 0 ≤ a0 ∧ a0 ≤ 4096) : ∀ (rs : List S36) (p : Nat) (rest : List Int), p ≤ l.length → (∀ r, r ∈ rs → RuleOk a0 r) → l.drop p = rulP rs ++ rest →
    ∃ q : Nat, rulesT l a0 rs.length p = .ok (rs, (q : Int)) ∧ q ≤ l.length ∧ l.drop q = rest
  | [], p, rest, hp, _, h => ⟨p, rfl, hp, h⟩
  | r :: rs, p, rest, hp, hr, h => by
    simp only [rulP, List.append_assoc] at h
    obtain ⟨q1, a1, a2, a3, _⟩ := ruleT_bk ha (hr r List.mem_cons_self) hp h
    obtain ⟨q, b1, b2, b3⟩ := rulesT_bk ha rs q1 rest a2 (fun r h => hr r (List.mem_cons_of_mem _ h)) a3
    refine ⟨q, ?_, b2, b3⟩
    show rulesT l a0 (rs.length + 1) p = _
    simp only [rulesT, a1, b1, preX]
    rfl
theorem rulesT_rd {l : List Int} (hb : Bytes l) {a0 : Int} (ha : 0 ≤ a0 ∧ a0 ≤ 4096) : ∀ (d p : Nat) (rs : List S36) (q : Int), rulesT l a0 d p = .ok (rs, q) → p ≤ l.length →
    ∃ q' : Nat, q = q' ∧ q' ≤ l.length ∧ rs.length = d ∧ (∀ r, r ∈ rs → RuleOk a0 r) ∧ l.drop p = rulP rs ++ l.drop q'
  | 0, p, rs, q, h, hp => by
    simp only [rulesT, Except.ok.injEq, Prod.mk.injEq] at h
    obtain ⟨rfl, rfl⟩ := h
    exact ⟨p, rfl, hp, rfl, by simp, rfl⟩
  | d + 1, p, rs, q, h, hp => by
    simp only [rulesT] at h
    rcases h1 : ruleT l a0 p with z | ⟨r, p1⟩
    · rw [h1] at h; cases h
    rw [h1] at h
    simp only at h
    obtain ⟨p1', rfl, a1, a2, a3⟩ := ruleT_rd hb ha hp h1
    rcases h2 : rulesT l a0 d p1' with z | ⟨rs', p2⟩
    · rw [h2] at h; cases h
    rw [h2] at h
    simp only [preX, Except.ok.injEq, Prod.mk.injEq] at h
    obtain ⟨rfl, rfl⟩ := h
    obtain ⟨q', rfl, b1, b2, b3, b4⟩ := rulesT_rd hb ha d p1' rs' p2 h2 a1
    refine ⟨q', rfl, b1, by simp [b2], fun x hx => ?_, ?_⟩
    · rcases List.mem_cons.1 hx with rfl | hx
      · exact a2
      · exact b3 x hx
    · rw [a3, b4]; simp [rulP]
theorem rulesT_er {l : List Int} (hb : Bytes l) {a0 : Int} (ha : 0 ≤ a0 ∧ a0 ≤ 4096) {e q : Int} : ∀ (d p : Nat), rulesT l a0 d p = .error (e, q) → p ≤ l.length → e ≠ 0 ∧ 0 ≤ q ∧ q ≤ l.length
  | 0, p, h, hp => by cases h
  | d + 1, p, h, hp => by
    simp only [rulesT] at h
    rcases h1 : ruleT l a0 p with z | ⟨r, p1⟩
    · rw [h1] at h
      obtain rfl := Except.error.inj h
      exact ruleT_er hb ha hp h1
    rw [h1] at h
    simp only at h
    obtain ⟨p1', rfl, a1, a2, a3⟩ := ruleT_rd hb ha hp h1
    rcases h2 : rulesT l a0 d p1' with z | ⟨rs', p2⟩
    · rw [h2] at h
      obtain rfl := Except.error.inj h
      exact rulesT_er hb ha d p1' h2 a1
    · rw [h2] at h; cases h
/-! the superiority -/
theorem beatsT_bk {l : List Int} {n : Nat} (hn : n ≤ 4096) : ∀ (bs : List (List Int)) (p : Nat) (rest : List Int), p ≤ l.length → (∀ b, b ∈ bs → (∀ x, x ∈ b → 0 ≤ x ∧ x < n) ∧ b.Pairwise (· < ·)) → l.drop p = beaP bs ++ rest →
    ∃ q : Nat, beatsT l n bs.length p = .ok (bs, (q : Int)) ∧ q ≤ l.length ∧ l.drop q = rest
  | [], p, rest, hp, _, h => ⟨p, rfl, hp, h⟩
  | b :: bs, p, rest, hp, hr, h => by
    simp only [beaP, List.append_assoc] at h
    have h0 := hr b List.mem_cons_self
    have hl := pair_len h0
    obtain ⟨a1, a2, a3⟩ := listT_bk (most := 4096) (least := 0) (n := n) (er := 123) (by omega) (by omega) (by omega) hp (by omega) h0.1 h0.2 (by omega) h
    obtain ⟨q, b1, b2, b3⟩ := beatsT_bk hn bs _ rest a2 (fun r h => hr r (List.mem_cons_of_mem _ h)) a3
    refine ⟨q, ?_, b2, b3⟩
    show beatsT l n (bs.length + 1) p = _
    simp only [beatsT, a1, b1, preX]
    rfl
theorem beatsT_rd {l : List Int} (hb : Bytes l) {n : Nat} (hn : n ≤ 4096) : ∀ (d p : Nat) (bs : List (List Int)) (q : Int), beatsT l n d p = .ok (bs, q) → p ≤ l.length →
    ∃ q' : Nat, q = q' ∧ q' ≤ l.length ∧ bs.length = d ∧ (∀ b, b ∈ bs → (∀ x, x ∈ b → 0 ≤ x ∧ x < n) ∧ b.Pairwise (· < ·)) ∧ l.drop p = beaP bs ++ l.drop q'
  | 0, p, bs, q, h, hp => by
    simp only [beatsT, Except.ok.injEq, Prod.mk.injEq] at h
    obtain ⟨rfl, rfl⟩ := h
    exact ⟨p, rfl, hp, rfl, by simp, rfl⟩
  | d + 1, p, bs, q, h, hp => by
    simp only [beatsT] at h
    rcases h1 : listT l p 4096 0 n 123 with z | ⟨b, p1⟩
    · rw [h1] at h; cases h
    rw [h1] at h
    simp only at h
    obtain ⟨p1', rfl, a1, a2, a3, a4, a5, a6⟩ := listT_rd hb h1 hp (by omega) (by omega) (by omega) (by omega) (by omega)
    rcases h2 : beatsT l n d p1' with z | ⟨bs', p2⟩
    · rw [h2] at h; cases h
    rw [h2] at h
    simp only [preX, Except.ok.injEq, Prod.mk.injEq] at h
    obtain ⟨rfl, rfl⟩ := h
    obtain ⟨q', rfl, b1, b2, b3, b4⟩ := beatsT_rd hb hn d p1' bs' p2 h2 a2
    refine ⟨q', rfl, b1, by simp [b2], fun x hx => ?_, ?_⟩
    · rcases List.mem_cons.1 hx with rfl | hx
      · exact ⟨a4, a5⟩
      · exact b3 x hx
    · rw [a6, b4]; simp [beaP]
theorem beatsT_er {l : List Int} (hb : Bytes l) {n : Nat} (hn : n ≤ 4096) {e q : Int} : ∀ (d p : Nat), beatsT l n d p = .error (e, q) → p ≤ l.length → e ≠ 0 ∧ 0 ≤ q ∧ q ≤ l.length
  | 0, p, h, hp => by cases h
  | d + 1, p, h, hp => by
    simp only [beatsT] at h
    rcases h1 : listT l p 4096 0 n 123 with z | ⟨b, p1⟩
    · rw [h1] at h
      obtain rfl := Except.error.inj h
      exact listT_er h1 (by decide) hb hp (by omega) (by omega) (by omega) (by omega) (by omega)
    rw [h1] at h
    simp only at h
    obtain ⟨p1', rfl, a1, a2, a3, a4, a5, a6⟩ := listT_rd hb h1 hp (by omega) (by omega) (by omega) (by omega) (by omega)
    rcases h2 : beatsT l n d p1' with z | ⟨bs', p2⟩
    · rw [h2] at h
      obtain rfl := Except.error.inj h
      exact beatsT_er hb hn d p1' h2 a2
    · rw [h2] at h; cases h
/-! the whole -/
theorem thyT_bk {a0 : Int} {fo be : List (List Int)} {rs : List S36} (h : Fine a0 fo rs be) : thyT (encP a0 fo rs be) = .ok (a0, fo, rs, be) := by
  obtain ⟨l, hl⟩ : ∃ l, l = encP a0 fo rs be := ⟨_, rfl⟩
  rw [← hl]
  unfold encP at hl
  have e4 : l.drop 4 = uP a0 ++ (foesP 0 fo ++ (vlq rs.length ++ (rulP rs ++ beaP be))) := by rw [hl]; rfl
  have h4 : 4 ≤ l.length := by rw [hl]; simp
  have han := h.an
  have hln := h.len
  have hm : a0.toNat = fo.length := by omega
  obtain ⟨a1, a2, a3⟩ := num_bk (least := 0) (most := 4096) (e := 3) h4 e4 (by omega) (by omega) (by omega) (by omega)
  rw [foesP_abs] at a3
  have hok : AbvOk fo.length 0 (absOf 0 fo) := absOf_ok fo 0 (fun r hr => by rw [hln]; exact (h.row r hr).2)
  obtain ⟨b1, b2, b3⟩ := foesT_bk (n := fo.length) (by omega) (absOf 0 fo) 0 _ (List.replicate fo.length []) _ a2 (by rw [absOf_len]; omega) hok (fun a ha => by
    obtain ⟨j, hj, e⟩ := List.getElem_of_mem ha
    have hj' : j < fo.length := by rw [absOf_len] at hj; exact hj
    have := absOf_get fo 0 j hj'
    rw [List.getD_eq_getElem?_getD, List.getElem?_eq_getElem hj, List.getD_eq_getElem?_getD, List.getElem?_eq_getElem hj'] at this
    simp only [Option.getD_some] at this
    rw [e] at this
    rw [this]
    have := abv_len ((0 + j : Nat) : Int) fo[j]
    have := (h.row _ (List.getElem_mem hj')).1
    omega) a3
  rw [absOf_len, bld_back h] at b1
  obtain ⟨c1, c2, c3⟩ := num_bk (least := 0) (most := 4096) (e := 3) b2 b3 (by omega) (by omega) (by have := h.r4; omega) (by omega)
  obtain ⟨q1, d1, d2, d3⟩ := rulesT_bk h.an rs _ (beaP be) c2 h.rule c3
  obtain ⟨q2, f1, f2, f3⟩ := beatsT_bk h.r4 be q1 [] d2 h.bea (by rw [d3, List.append_nil])
  have hq : q2 = l.length := by
    have := congrArg List.length f3
    rw [List.length_drop, List.length_nil] at this
    omega
  unfold thyT
  rw [headT_bk (rest := uP a0 ++ (foesP 0 fo ++ (vlq rs.length ++ (rulP rs ++ beaP be)))) hl]
  simp only
  rw [show (4 : Int) = ((4 : Nat) : Int) from rfl, a1]
  simp only
  rw [show ((a0.toNat : Nat) : Int).toNat = fo.length by rw [Int.toNat_natCast]; exact hm, show ((a0.toNat : Nat) : Int) = (fo.length : Int) by omega]
  rw [show (0 : Int) = ((0 : Nat) : Int) from rfl, b1]
  simp only [Int.natCast_zero]
  rw [c1]
  simp only [Int.toNat_natCast]
  rw [show (fo.length : Int) = a0 from hln, d1]
  rw [h.bl] at f1
  simp only [f1, tailT]
  rw [if_neg (by omega)]
theorem thyT_rd {l : List Int} (hb : Bytes l) {a0 : Int} {fo be : List (List Int)} {rs : List S36} (h : thyT l = .ok (a0, fo, rs, be)) :
    encP a0 fo rs be = l ∧ (∃ as_ : List (List Int), fo.length = as_.length ∧ AbvOk fo.length 0 as_ ∧ (∀ a, a ∈ as_ → a.length ≤ 64) ∧ fo = bld 0 as_ (List.replicate fo.length [])) ∧ (0 ≤ a0 ∧ a0 ≤ 4096) ∧ (fo.length : Int) = a0 ∧ rs.length ≤ 4096 ∧ be.length = rs.length ∧ (∀ r, r ∈ rs → RuleOk a0 r) ∧ (∀ b, b ∈ be → (∀ x, x ∈ b → 0 ≤ x ∧ x < rs.length) ∧ b.Pairwise (· < ·)) := by
  unfold thyT at h
  rcases h1 : headT l 4 0 with z | u
  · rw [h1] at h; cases h
  rw [h1] at h
  simp only at h
  obtain ⟨h4, e0⟩ := headT_rd h1
  rcases h2 : numT l 4 0 4096 3 with z | ⟨L, p1⟩
  · rw [h2] at h; cases h
  rw [h2] at h
  simp only at h
  obtain ⟨m, p1', rfl, rfl, a1, a2, a3, a4, a5⟩ := num_rd hb (p := 4) h2 h4 (by omega) (by omega) (by omega)
  rw [Int.toNat_natCast] at h
  rcases h3 : foesT l m m 0 p1' (List.replicate m []) with z | ⟨F, p2⟩
  · rw [h3] at h; cases h
  rw [h3] at h
  simp only at h
  obtain ⟨as_, p2', rfl, b1, b2, b3, b4, b5, rfl, b7⟩ := foesT_rd hb (n := m) (by omega) m 0 p1' _ _ _ h3 a4 (by omega)
  rcases h5 : numT l p2' 0 4096 3 with z | ⟨n, p3⟩
  · rw [h5] at h; cases h
  rw [h5] at h
  simp only at h
  obtain ⟨n', p3', rfl, rfl, c1, c2, c3, c4, c5⟩ := num_rd hb h5 b2 (by omega) (by omega) (by omega)
  rw [Int.toNat_natCast] at h
  rcases h6 : rulesT l m n' p3' with z | ⟨R, p4⟩
  · rw [h6] at h; cases h
  rw [h6] at h
  simp only at h
  obtain ⟨p4', rfl, d1, d2, d3, d4⟩ := rulesT_rd hb ⟨by omega, by omega⟩ n' p3' R p4 h6 c4
  rcases h7 : beatsT l n' n' p4' with z | ⟨B, p5⟩
  · rw [h7] at h; cases h
  rw [h7] at h
  simp only [tailT] at h
  obtain ⟨p5', rfl, f1, f2, f3, f4⟩ := beatsT_rd hb (n := n') (by omega) n' p4' B p5 h7 d1
  by_cases h8 : ((p5' : Nat) : Int) < l.length
  · rw [if_pos h8] at h; cases h
  rw [if_neg h8] at h
  simp only [Except.ok.injEq, Prod.mk.injEq] at h
  obtain ⟨rfl, rfl, rfl, rfl⟩ := h
  have hlen : (bld 0 as_ (List.replicate m [])).length = m := by rw [bld_len, List.length_replicate]
  refine ⟨?_, ⟨as_, by rw [hlen, b3], by rw [hlen]; exact b4, b5, by rw [hlen]⟩, ⟨by omega, by omega⟩, by rw [hlen], by omega, by omega, d3, fun b hb' => by rw [d2]; exact f3 b hb'⟩
  unfold encP
  rw [foesP_abs, bld_fwd b3 b4, d2]
  have f5 : l.drop p5' = [] := List.drop_of_length_le (by omega)
  rw [f5, List.append_nil] at f4
  conv => rhs; rw [e0, a5, b7, c5, d4, f4]
  simp only [uP, Int.toNat_natCast]
theorem thyT_er {l : List Int} (hb : Bytes l) {e q : Int} (h : thyT l = .error (e, q)) : e ≠ 0 ∧ 0 ≤ q ∧ q ≤ l.length := by
  unfold thyT at h
  rcases h1 : headT l 4 0 with z | u
  · rw [h1] at h
    obtain rfl := Except.error.inj h
    exact headT_er h1
  rw [h1] at h
  simp only at h
  obtain ⟨h4, e0⟩ := headT_rd h1
  rcases h2 : numT l 4 0 4096 3 with z | ⟨L, p1⟩
  · rw [h2] at h
    obtain rfl := Except.error.inj h
    exact num_er h2 (by omega) (by omega) (by decide)
  rw [h2] at h
  simp only at h
  obtain ⟨m, p1', rfl, rfl, a1, a2, a3, a4, a5⟩ := num_rd hb (p := 4) h2 h4 (by omega) (by omega) (by omega)
  rw [Int.toNat_natCast] at h
  rcases h3 : foesT l m m 0 p1' (List.replicate m []) with z | ⟨F, p2⟩
  · rw [h3] at h
    obtain rfl := Except.error.inj h
    exact foesT_er hb (n := m) (by omega) m 0 p1' _ h3 a4 (by omega)
  rw [h3] at h
  simp only at h
  obtain ⟨as_, p2', rfl, b1, b2, b3, b4, b5, rfl, b7⟩ := foesT_rd hb (n := m) (by omega) m 0 p1' _ _ _ h3 a4 (by omega)
  rcases h5 : numT l p2' 0 4096 3 with z | ⟨n, p3⟩
  · rw [h5] at h
    obtain rfl := Except.error.inj h
    exact num_er h5 (by omega) (by omega) (by decide)
  rw [h5] at h
  simp only at h
  obtain ⟨n', p3', rfl, rfl, c1, c2, c3, c4, c5⟩ := num_rd hb h5 b2 (by omega) (by omega) (by omega)
  rw [Int.toNat_natCast] at h
  rcases h6 : rulesT l m n' p3' with z | ⟨R, p4⟩
  · rw [h6] at h
    obtain rfl := Except.error.inj h
    exact rulesT_er hb ⟨by omega, by omega⟩ n' p3' h6 c4
  rw [h6] at h
  simp only at h
  obtain ⟨p4', rfl, d1, d2, d3, d4⟩ := rulesT_rd hb ⟨by omega, by omega⟩ n' p3' R p4 h6 c4
  rcases h7 : beatsT l n' n' p4' with z | ⟨B, p5⟩
  · rw [h7] at h
    simp only [tailT] at h
    obtain rfl := Except.error.inj h
    exact beatsT_er hb (n := n') (by omega) n' p4' h7 d1
  rw [h7] at h
  simp only [tailT] at h
  obtain ⟨p5', rfl, f1, f2, f3, f4⟩ := beatsT_rd hb (n := n') (by omega) n' p4' B p5 h7 d1
  by_cases h8 : ((p5' : Nat) : Int) < l.length
  · rw [if_pos h8] at h
    simp only [Except.error.injEq, Prod.mk.injEq] at h
    obtain ⟨rfl, rfl⟩ := h
    omega
  · rw [if_neg h8] at h; cases h
end Go.Proofs.Ytpcaonkahhbgfaa.P
/- Theory, plain: a theory is the same as itself; what 'works' asks holds. -/
namespace Go.Proofs.Ytpcaonkahhbgfaa.P
open Go.RowKit Go.Proofs.YtpcaonkahhbgfaaW.PrintWords Go.Proofs.Ytpcaonkahhbgfaa.K
set_option linter.unusedVariables false
set_option linter.unusedSimpArgs false

theorem sameI_l0 : ∀ (d i : Nat) (l : List Int), i + d = l.length → l.length ≤ 140737488351232 → Ev (fun k => lexpriorplain_SameInts.l0 k l l i) true
  | 0, i, l, hi, hl => by
    refine Ev.step (fun _ => rfl) ?_
    simp only [lexpriorplain_SameInts.l0, if_neg (show ¬ (i : Int) < (l.length : Int) by omega)]
    exact Ev.now _
  | d + 1, i, l, hi, hl => by
    refine Ev.step (fun _ => rfl) ?_
    simp only [lexpriorplain_SameInts.l0, if_pos (show (i : Int) < (l.length : Int) by omega), if_pos (show (0 : Int) ≤ (i : Int) by omega), if_true, wr_succ (show i ≤ 140737488351232 by omega)]
    exact sameI_l0 d (i + 1) l (by omega) hl
theorem sameI_refl (l : List Int) (hl : l.length ≤ 140737488351232) : Ev (fun k => lexpriorplain_SameInts.f k l l) true := by
  unfold lexpriorplain_SameInts.f
  simp only [if_true]
  exact sameI_l0 l.length 0 l (by omega) hl
theorem sameL_l0 : ∀ (d i : Nat) (l : List (List Int)), i + d = l.length → l.length ≤ 140737488351232 → WfRows l → Ev (fun k => lexpriorplain_SameIntLists.l0 k l l i) true
  | 0, i, l, hi, hl, hw => by
    refine Ev.step (fun _ => rfl) ?_
    simp only [lexpriorplain_SameIntLists.l0, if_neg (show ¬ (i : Int) < (l.length : Int) by omega)]
    exact Ev.now _
  | d + 1, i, l, hi, hl, hw => by
    refine Ev.step (fun _ => rfl) ?_
    simp only [lexpriorplain_SameIntLists.l0, if_pos (show (i : Int) < (l.length : Int) by omega), if_pos (show (0 : Int) ≤ (i : Int) by omega), wr_succ (show i ≤ 140737488351232 by omega)]
    exact Ev.bind (sameI_refl _ (row_wf hw i)) (by simp only [if_true]; exact sameL_l0 d (i + 1) l (by omega) hl hw)
theorem sameL_refl (l : List (List Int)) (hl : l.length ≤ 140737488351232) (hw : WfRows l) : Ev (fun k => lexpriorplain_SameIntLists.f k l l) true := by
  unfold lexpriorplain_SameIntLists.f
  simp only [if_true]
  exact sameL_l0 l.length 0 l (by omega) hl hw
theorem sameR_l0 : ∀ (d i : Nat) (l : List S36), i + d = l.length → l.length ≤ 140737488351232 → (∀ r, r ∈ l → WfRow r.f2) → Ev (fun k => lexpriorplain_SameRules.l0 k l l i) true
  | 0, i, l, hi, hl, hw => by
    refine Ev.step (fun _ => rfl) ?_
    simp only [lexpriorplain_SameRules.l0, if_neg (show ¬ (i : Int) < (l.length : Int) by omega)]
    exact Ev.now _
  | d + 1, i, l, hi, hl, hw => by
    have hil : i < l.length := by omega
    have hr : WfRow (rd_T36 l (i : Int)).f2 := by
      have e : rd_T36 l (i : Int) = l[i] := by simp [rd_T36, List.getD_eq_getElem?_getD, List.getElem?_eq_getElem hil]
      rw [e]
      exact hw _ (List.getElem_mem hil)
    refine Ev.step (fun _ => rfl) ?_
    simp only [lexpriorplain_SameRules.l0, if_pos (show (i : Int) < (l.length : Int) by omega), if_pos (show (0 : Int) ≤ (i : Int) by omega), wr_succ (show i ≤ 140737488351232 by omega)]
    have h1 : Ev (fun k => lexpriorplain_SameRule.f k (rd_T36 l (i : Int)).f0 (rd_T36 l (i : Int)).f1 (rd_T36 l (i : Int)).f2 (rd_T36 l (i : Int)).f0 (rd_T36 l (i : Int)).f1 (rd_T36 l (i : Int)).f2) true := by
      unfold lexpriorplain_SameRule.f
      simp only [if_true]
      exact Ev.bind (sameI_refl _ (by unfold WfRow at hr; omega)) (Ev.now _)
    refine Ev.bind h1 ?_
    simp only [if_true]
    exact sameR_l0 d (i + 1) l (by omega) hl hw
theorem sameR_refl (l : List S36) (hl : l.length ≤ 140737488351232) (hw : ∀ r, r ∈ l → WfRow r.f2) : Ev (fun k => lexpriorplain_SameRules.f k l l) true := by
  unfold lexpriorplain_SameRules.f
  simp only [if_true]
  exact sameR_l0 l.length 0 l (by omega) hl hw
theorem sameT_refl (a0 : Int) {fo be : List (List Int)} {rs : List S36} (h1 : fo.length ≤ 140737488351232) (h2 : WfRows fo) (h3 : rs.length ≤ 140737488351232) (h4 : ∀ r, r ∈ rs → WfRow r.f2) (h5 : be.length ≤ 140737488351232) (h6 : WfRows be) : Ev (fun k => lexpriorplain_SameTheory.f k a0 fo rs be a0 fo rs be) true := by
  unfold lexpriorplain_SameTheory.f
  simp only [if_true]
  refine Ev.bind (sameL_refl fo h1 h2) ?_
  simp only [if_true]
  refine Ev.bind (sameR_refl rs h3 h4) ?_
  simp only [if_true]
  exact Ev.bind (sameL_refl be h5 h6) (Ev.now _)
theorem wfr {l : List Int} (h : l.length ≤ 1000000) : WfRow l := by unfold WfRow; omega
/-! works -/
theorem wk_fine : Fine 2 [[1], [0]] wkRs [[1], []] := fine_of (by kernel_rfl)
theorem wk_enc : encP 2 [[1], [0]] wkRs [[1], []] = wkB := by
  have v0 : vlq 0 = [0] := vlq_small (by decide)
  have v1 : vlq 1 = [1] := vlq_small (by decide)
  have v2 : vlq 2 = [2] := vlq_small (by decide)
  simp [encP, uP, foesP, lisP, numsP, abv, rulP, beaP, wkRs, wkB, v0, v1, v2]
theorem wk_thyC : Ev (fun k => thyC k wkB) (.ok (2, [[1], [0]], wkRs, [[1], []])) := by
  have h := thyT_bk wk_fine
  rw [wk_enc] at h
  unfold thyC
  rw [h]
  have w1 : WfRows [[1], [0]] := fun r hr => by simp at hr; rcases hr with rfl | rfl <;> exact wfr (by simp)
  have w2 : WfRows [[1], []] := fun r hr => by simp at hr; rcases hr with rfl | rfl <;> exact wfr (by simp)
  have hc := check_ev (a0 := 2) (rs := wkRs) w1 w2
  rw [show chkS 2 [[1], [0]] wkRs [[1], []] = (0, 0) by kernel_rfl] at hc
  exact Ev.bind hc (by simp only [if_true]; exact Ev.now _)
theorem works12_ev : Ev (fun k => lexpriorlaw12_works.f k) true := by
  have w1 : WfRows [[1], [0]] := fun r hr => by simp at hr; rcases hr with rfl | rfl <;> exact wfr (by simp)
  have w2 : WfRows [[1], []] := fun r hr => by simp at hr; rcases hr with rfl | rfl <;> exact wfr (by simp)
  have e1 := check_ev (a0 := 2) (rs := wkRs) w1 w2
  rw [show chkS 2 [[1], [0]] wkRs [[1], []] = (0, 0) by kernel_rfl] at e1
  have e2 := encode_ev (a0 := 2) (rs := wkRs) w1 w2
  rw [show chkS 2 [[1], [0]] wkRs [[1], []] = (0, 0) by kernel_rfl, if_pos rfl, wk_enc] at e2
  have e3 : Ev (fun k => theory_Decode.f k wkB) (2, [[1], [0]], wkRs, [[1], []], 0, 18) := by
    unfold theory_Decode.f
    have hb : Bytes wkB := by decide
    simp only [if_pos hb]
    exact Ev.bind wk_thyC (Ev.now _)
  have e4 : Ev (fun k => theory_Pairs.f k 2 [[1], [0]] wkRs [[1], []]) (2, 0) := by
    unfold theory_Pairs.f
    refine Ev.bind e1 ?_
    have hp := pairs_ev (be := [[1], []]) (check_pre (show (chkS 2 [[1], [0]] wkRs [[1], []]).1 = 0 by kernel_rfl)).1
    rw [show pairsS 2 [[1], [0]] wkRs = 2 by kernel_rfl] at hp
    simp only [if_true]
    exact Ev.bind hp (Ev.now _)
  have e5 := check_ev (a0 := 2) (rs := wkRs) w1 w1
  rw [show chkS 2 [[1], [0]] wkRs [[1], [0]] = (131, 0) by kernel_rfl] at e5
  have e6 := sameT_refl 2 (fo := [[1], [0]]) (rs := wkRs) (be := [[1], []]) (by simp) w1 (by simp [wkRs]) (fun r hr => by simp [wkRs] at hr; rcases hr with rfl | rfl <;> exact wfr (by simp)) (by simp) w2
  obtain ⟨k1, e1⟩ := e1
  obtain ⟨k2, e2⟩ := e2
  obtain ⟨k3, e3⟩ := e3
  obtain ⟨k4, e4⟩ := e4
  obtain ⟨k5, e5⟩ := e5
  obtain ⟨k6, e6⟩ := e6
  refine ⟨k1 + k2 + k3 + k4 + k5 + k6, fun k hk => ?_⟩
  show lexpriorlaw12_works.f k = some true
  unfold lexpriorlaw12_works.f
  rw [if_pos ⟨⟨⟨e1 k (by omega), e2 k (by omega)⟩, e3 k (by omega)⟩, ⟨e4 k (by omega), e5 k (by omega)⟩, e6 k (by omega)⟩]
/-! Decode -/
/-- What is read has sizes that fit. -/
theorem thyT_wf {l : List Int} (hb : Bytes l) {a0 : Int} {fo be : List (List Int)} {rs : List S36} (h : thyT l = .ok (a0, fo, rs, be)) : WfRows fo ∧ WfRows be ∧ fo.length ≤ 4096 ∧ rs.length ≤ 4096 ∧ be.length ≤ 4096 ∧ ∀ r, r ∈ rs → WfRow r.f2 := by
  obtain ⟨_, ⟨as_, h1, h2, h3, h4⟩, h5, h6, h7, h8, h9, h10⟩ := thyT_rd hb h
  refine ⟨fun r hr => ?_, fun b hb' => ?_, by omega, h7, by omega, fun r hr => wfr (by have := (h9 r hr).2.2.1; omega)⟩
  · obtain ⟨x, hx, e⟩ := List.getElem_of_mem hr
    have hrow := bld_row (x := x) (F := List.replicate fo.length []) (by rw [List.length_replicate]) (by omega) h2
    rw [nxL_nil, List.nil_append, ← h4, nxL_get hx, e] at hrow
    have hok := con_pw (x := x) (Nat.zero_le _) h2
    have hm : ∀ z, z ∈ con 0 as_ x → 0 ≤ z ∧ z < fo.length := fun z hz => by
      rcases (con_mem (Nat.zero_le _) h2).1 hz with ⟨j, _, j2, j3, rfl, _⟩ | ⟨hl, hz⟩
      · omega
      · have hA : ∀ (as_ : List (List Int)) (q n : Nat), AbvOk n q as_ → ∀ i z, z ∈ as_.getD i [] → 0 ≤ z ∧ z < n := by
          intro as_
          induction as_ with
          | nil => intro q n _ i z hz; simp at hz
          | cons a as_ ih =>
            intro q n h i z hz
            cases i with
            | zero => have := h.1.1 z hz; omega
            | succ i => exact ih (q + 1) n h.2 i z (by simpa using hz)
        exact hA as_ 0 _ h2 _ z hz
    have := pair_len (m := fo.length) ⟨hm, hok⟩
    rw [hrow]
    exact wfr (by omega)
  · have := pair_len (h10 b hb')
    exact wfr (by omega)
theorem decode_ev {l : List Int} (hb : Bytes l) : Ev (fun k => theory_Decode.f k l) (match thyT l with
    | .error (e, p) => (0, [], [], [], e, p)
    | .ok (a0, fo, rs, be) => if (chkS a0 fo rs be).1 = 0 then (a0, fo, rs, be, 0, (l.length : Int)) else (0, [], [], [], (chkS a0 fo rs be).1, 0)) := by
  unfold theory_Decode.f thyC
  simp only [if_pos hb]
  rcases h : thyT l with ⟨e, p⟩ | ⟨a0, fo, rs, be⟩
  · simp only
    exact Ev.now _
  · simp only
    obtain ⟨w1, w2, _⟩ := thyT_wf hb h
    by_cases hc : (chkS a0 fo rs be).1 = 0
    · rw [if_pos hc]
      exact Ev.bind (show Ev _ (Except.ok (a0, fo, rs, be)) from Ev.bind (check_ev w1 w2) (by simp only [if_pos hc]; exact Ev.now _)) (Ev.now _)
    · rw [if_neg hc]
      exact Ev.bind (show Ev _ (Except.error ((chkS a0 fo rs be).1, 0)) from Ev.bind (check_ev w1 w2) (by simp only [if_neg hc]; exact Ev.now _)) (Ev.now _)
end Go.Proofs.Ytpcaonkahhbgfaa.P
/- A cone, plain: what Cone tells is what can be come to, rising. -/
namespace Go.Proofs.Ytpcaonkahhbgfaa.P
open Go.RowKit Go.Proofs.YtpcaonkahhbgfaaW.PrintWords Go.Proofs.Ytpcaonkahhbgfaa.K
set_option linter.unusedVariables false
set_option linter.unusedSimpArgs false

/-- From x to y: a foe, or a head of a rule with x in its body. -/
def Edge (fo : List (List Int)) (rs : List S36) (x y : Int) : Prop := y ∈ nxL fo x ∨ ∃ r, r ∈ rs ∧ x ∈ r.f2 ∧ y = r.f1
inductive Reach (fo : List (List Int)) (rs : List S36) (l : List Int) : Int → Prop
  | base {q : Int} (h : q ∈ l) : Reach fo rs l q
  | step {x y : Int} (h : Reach fo rs l x) (he : Edge fo rs x y) : Reach fo rs l y
section
variable {fo : List (List Int)} {rs : List S36} {l m : List Int} {q : Int}
theorem Reach.mono (h : Reach fo rs l q) (hi : ∀ x, x ∈ l → Reach fo rs m x) : Reach fo rs m q := by
  induction h with
  | base h => exact hi _ h
  | step h he ih => exact ih.step he
theorem Reach.app : Reach fo rs (l ++ m) q ↔ Reach fo rs l q ∨ Reach fo rs m q := by
  constructor
  · intro h
    induction h with
    | base h => exact (List.mem_append.1 h).imp .base .base
    | step h he ih => exact ih.imp (fun h => h.step he) (fun h => h.step he)
  · rintro (h | h)
    · exact h.mono (fun x hx => .base (List.mem_append_left _ hx))
    · exact h.mono (fun x hx => .base (List.mem_append_right _ hx))
end
/-! what is put -/
/-- What is marked is what is to be done, once each. -/
structure PutOk (n : Nat) (s : List Bool × List Int) : Prop where
  len : s.1.length = n
  rng : ∀ x, x ∈ s.2 → 0 ≤ x ∧ x < n
  iff : ∀ x : Int, 0 ≤ x → x < n → (gb s.1 x = true ↔ x ∈ s.2)
  nd : s.2.Nodup
theorem PutOk.le {n : Nat} {s : List Bool × List Int} (h : PutOk n s) : s.2.length ≤ n := nodup_len' n s.2 h.nd h.rng
theorem putV_ok {n : Nat} (hn : n ≤ 4096) : ∀ {l : List Int} {s : List Bool × List Int}, PutOk n s → (∀ x, x ∈ l → 0 ≤ x ∧ x < n) → ∃ s', putV n l s = some s' ∧ PutOk n s' ∧ (∃ t, s'.2 = s.2 ++ t ∧ ∀ x, x ∈ t → x ∈ l) ∧ ∀ x, x ∈ l → x ∈ s'.2
  | [], s, h, _ => ⟨s, rfl, h, ⟨[], by simp, by simp⟩, by simp⟩
  | q :: l, s, h, hl => by
    have hq := hl q List.mem_cons_self
    have hle := h.le
    simp only [putV]
    rw [if_pos ⟨hq, by omega⟩]
    by_cases hg : gb s.1 q = true
    · rw [if_pos hg]
      obtain ⟨s', a1, a2, ⟨t, a3, a4⟩, a5⟩ := putV_ok hn h (fun x hx => hl x (List.mem_cons_of_mem _ hx))
      refine ⟨s', a1, a2, ⟨t, a3, fun x hx => List.mem_cons_of_mem _ (a4 x hx)⟩, fun x hx => ?_⟩
      rcases List.mem_cons.1 hx with rfl | hx
      · rw [a3]; exact List.mem_append_left _ ((h.iff x hq.1 hq.2).1 hg)
      · exact a5 x hx
    · rw [if_neg hg]
      have hnm : q ∉ s.2 := fun hm => hg ((h.iff q hq.1 hq.2).2 hm)
      have h1 : PutOk n (s.1.set q.toNat true, s.2 ++ [q]) := by
        refine ⟨by simp [h.len], fun x hx => ?_, fun x x0 x1 => ?_, ?_⟩
        · rcases List.mem_append.1 hx with hx | hx
          · exact h.rng x hx
          · rw [List.mem_singleton.1 hx]; exact hq
        · simp only
          rw [gb_set hq.1 x0 (by rw [h.len]; exact hq.2), List.mem_append, List.mem_singleton]
          by_cases e : x = q
          · simp [e]
          · rw [if_neg e, h.iff x x0 x1]; simp [e]
        · rw [List.nodup_append]
          exact ⟨h.nd, by simp, fun a ha b hb e => by rw [List.mem_singleton.1 hb] at e; exact hnm (e ▸ ha)⟩
      obtain ⟨s', a1, a2, ⟨t, a3, a4⟩, a5⟩ := putV_ok hn h1 (fun x hx => hl x (List.mem_cons_of_mem _ hx))
      refine ⟨s', a1, a2, ⟨q :: t, by rw [a3]; simp, fun x hx => ?_⟩, fun x hx => ?_⟩
      · rcases List.mem_cons.1 hx with rfl | hx
        · exact List.mem_cons_self
        · exact List.mem_cons_of_mem _ (a4 x hx)
      · rcases List.mem_cons.1 hx with rfl | hx
        · rw [a3]; exact List.mem_append_left _ (by simp)
        · exact a5 x hx
/-! the heads -/
def HeadsIs (n : Nat) (rs : List S36) (hs : List (List Int)) : Prop := hs.length = n ∧ ∀ x : Int, 0 ≤ x → x < n → ∀ y, y ∈ rd_L1 hs x ↔ ∃ r, r ∈ rs ∧ x ∈ r.f2 ∧ y = r.f1
theorem rdL_set {F : List (List Int)} {i : Nat} (hi : i < F.length) (r : List Int) {j : Int} (hj : 0 ≤ j) : rd_L1 (F.set i r) j = if j = (i : Int) then r else rd_L1 F j := by
  obtain ⟨k, rfl⟩ := Int.eq_ofNat_of_zero_le hj
  rw [rdL, nxL_set hi, rdL]
  by_cases e : k = i
  · rw [if_pos e, if_pos (by omega)]
  · rw [if_neg e, if_neg (by omega)]
theorem bodyV_ok {n : Nat} {h : Int} : ∀ {bs : List Int} {hs : List (List Int)} {m : Nat}, hs.length = n → (∀ x, x ∈ bs → 0 ≤ x ∧ x < n) → (∀ x : Int, 0 ≤ x → x < n → (rd_L1 hs x).length ≤ m) → m + bs.length < 1000000 →
    ∃ hs', bodyV n h bs hs = some hs' ∧ hs'.length = n ∧ (∀ x : Int, 0 ≤ x → x < n → (rd_L1 hs' x).length ≤ m + bs.length) ∧ ∀ x : Int, 0 ≤ x → x < n → ∀ y, y ∈ rd_L1 hs' x ↔ y ∈ rd_L1 hs x ∨ (x ∈ bs ∧ y = h)
  | [], hs, m, hl, _, hm, _ => ⟨hs, rfl, hl, by simpa using hm, by simp⟩
  | b :: bs, hs, m, hl, hb, hm, hlt => by
    have hb0 := hb b List.mem_cons_self
    simp only [List.length_cons] at hlt
    simp only [bodyV]
    rw [if_pos ⟨hb0, by have := hm b hb0.1 hb0.2; omega⟩]
    have hbl : b.toNat < hs.length := by omega
    have eb : ((b.toNat : Nat) : Int) = b := by omega
    obtain ⟨hs', a1, a2, a3, a4⟩ := bodyV_ok (h := h) (bs := bs) (hs := hs.set b.toNat (rd_L1 hs b ++ [h])) (m := m + 1) (by rw [List.length_set]; exact hl) (fun x hx => hb x (List.mem_cons_of_mem _ hx)) (fun x x0 x1 => by
      rw [rdL_set hbl _ x0, eb]
      split
      · rw [List.length_append, List.length_singleton]; have := hm b hb0.1 hb0.2; omega
      · have := hm x x0 x1; omega) (by omega)
    refine ⟨hs', a1, a2, fun x x0 x1 => by have := a3 x x0 x1; simp only [List.length_cons]; omega, fun x x0 x1 y => ?_⟩
    rw [a4 x x0 x1, rdL_set hbl _ x0, eb, List.mem_cons]
    by_cases e : x = b
    · rw [if_pos e, List.mem_append, List.mem_singleton, e]
      constructor
      · rintro ((h | h) | h)
        · exact .inl h
        · exact .inr ⟨.inl rfl, h⟩
        · exact .inr ⟨.inr h.1, h.2⟩
      · rintro (h | ⟨h | h, h2⟩)
        · exact .inl (.inl h)
        · exact .inl (.inr h2)
        · exact .inr ⟨h, h2⟩
    · rw [if_neg e]; simp [e]
theorem headsV_ok {n : Nat} : ∀ {rs : List S36} {hs : List (List Int)} {m : Nat}, hs.length = n → (∀ r, r ∈ rs → r.f2.length ≤ 16 ∧ ∀ x, x ∈ r.f2 → 0 ≤ x ∧ x < n) → (∀ x : Int, 0 ≤ x → x < n → (rd_L1 hs x).length ≤ m) → m + 16 * rs.length < 1000000 →
    ∃ hs', headsV n rs hs = some hs' ∧ hs'.length = n ∧ ∀ x : Int, 0 ≤ x → x < n → ∀ y, y ∈ rd_L1 hs' x ↔ y ∈ rd_L1 hs x ∨ ∃ r, r ∈ rs ∧ x ∈ r.f2 ∧ y = r.f1
  | [], hs, m, hl, _, _, _ => ⟨hs, rfl, hl, by simp⟩
  | r :: rs, hs, m, hl, hr, hm, hlt => by
    have h0 := hr r List.mem_cons_self
    simp only [List.length_cons] at hlt
    obtain ⟨h1, a1, a2, a3, a4⟩ := bodyV_ok (h := r.f1) hl h0.2 hm (by omega)
    obtain ⟨h2, b1, b2, b3⟩ := headsV_ok (rs := rs) (m := m + 16) a2 (fun r h => hr r (List.mem_cons_of_mem _ h)) (fun x x0 x1 => by have := a3 x x0 x1; omega) (by omega)
    refine ⟨h2, by simp only [headsV, a1, Option.bind_some]; exact b1, b2, fun x x0 x1 y => ?_⟩
    rw [b3 x x0 x1, a4 x x0 x1]
    simp only [List.mem_cons]
    constructor
    · rintro ((h | ⟨h, h'⟩) | ⟨r', h1, h2⟩)
      · exact .inl h
      · exact .inr ⟨r, .inl rfl, h, h'⟩
      · exact .inr ⟨r', .inr h1, h2⟩
    · rintro (h | ⟨r', h1 | h1, h2, h3⟩)
      · exact .inl (.inl h)
      · subst h1; exact .inl (.inr ⟨h2, h3⟩)
      · exact .inr ⟨r', h1, h2, h3⟩
theorem heads_is {a0 : Int} {fo be : List (List Int)} {rs : List S36} (h : Fine a0 fo rs be) : ∃ hs, headsV a0.toNat rs (List.replicate a0.toNat []) = some hs ∧ HeadsIs a0.toNat rs hs := by
  have han := h.an
  have h4 := h.r4
  obtain ⟨hs, a1, a2, a3⟩ := headsV_ok (n := a0.toNat) (rs := rs) (hs := List.replicate a0.toNat []) (m := 0) (by simp) (fun r hr => ⟨(h.rule r hr).2.2.1, fun x hx => by have := (h.rule r hr).2.2.2.1 x hx; omega⟩) (fun x _ _ => by rw [rdL, nxL_nil]; simp) (by omega)
  refine ⟨hs, a1, a2, fun x x0 x1 y => ?_⟩
  rw [a3 x x0 x1, rdL, nxL_nil]
  simp
/-! the cone -/
theorem coneV_ok {n : Nat} (hn : n ≤ 4096) {fo hs : List (List Int)} {rs : List S36} (hfo : ∀ x : Int, 0 ≤ x → x < n → ∀ y, y ∈ rd_L1 fo x → 0 ≤ y ∧ y < n) (hhs : HeadsIs n rs hs) (hrs : ∀ r, r ∈ rs → 0 ≤ r.f1 ∧ r.f1 < n) (l : List Int) : ∀ (d i : Nat) (s : List Bool × List Int), i + d = n + 1 → i ≤ s.2.length → PutOk n s → (∀ x, x ∈ l → x ∈ s.2) → (∀ x, x ∈ s.2 → Reach fo rs l x) → (∀ j : Nat, j < i → ∀ y, Edge fo rs (rd s.2 j) y → y ∈ s.2) →
    ∃ inn, coneV n fo hs d i s = some inn ∧ inn.length = n ∧ ∀ x : Int, 0 ≤ x → x < n → (gb inn x = true ↔ Reach fo rs l x)
  | 0, i, s, hi, hl, hp, _, _, _ => by have := hp.le; omega
  | d + 1, i, s, hi, hl, hp, h1, h2, h3 => by
    simp only [coneV]
    by_cases hlt : i < s.2.length
    · rw [if_pos hlt]
      have hx := hp.rng _ (rd_mem hlt)
      rw [if_pos hx]
      obtain ⟨s1, a1, a2, ⟨t1, a3, a4⟩, a5⟩ := putV_ok hn hp (hfo _ hx.1 hx.2)
      rw [a1, Option.bind_some]
      have e1 : rd s1.2 (i : Int) = rd s.2 (i : Int) := by
        have hl1 : i < s1.2.length := by rw [a3, List.length_append]; omega
        rw [rd_lt hl1, rd_lt hlt]
        simp only [a3]
        exact List.getElem_append_left hlt
      rw [e1, if_pos ⟨by rw [a3, List.length_append]; omega, hx⟩]
      obtain ⟨s2, b1, b2, ⟨t2, b3, b4⟩, b5⟩ := putV_ok hn a2 (l := rd_L1 hs (rd s.2 (i : Int))) (fun y hy => by
        obtain ⟨r, hr, _, rfl⟩ := (hhs.2 _ hx.1 hx.2 y).1 hy
        exact hrs r hr)
      rw [b1, Option.bind_some]
      have hx0 : rd s.2 (i : Int) ∈ s.2 := rd_mem hlt
      have es : s2.2 = s.2 ++ (t1 ++ t2) := by rw [b3, a3, List.append_assoc]
      refine coneV_ok hn hfo hhs hrs l d (i + 1) s2 (by omega) (by rw [es, List.length_append]; omega) b2 (fun x hx => by rw [es]; exact List.mem_append_left _ (h1 x hx)) (fun x hm => ?_) (fun j hj y hy => ?_)
      · rw [es] at hm
        rcases List.mem_append.1 hm with hm | hm
        · exact h2 x hm
        · rcases List.mem_append.1 hm with hm | hm
          · exact (h2 _ hx0).step (.inl (a4 x hm))
          · exact (h2 _ hx0).step (.inr ((hhs.2 _ hx.1 hx.2 x).1 (b4 x hm)))
      · have ej : rd s2.2 (j : Int) = rd s.2 (j : Int) := by
          have hl2 : j < s2.2.length := by rw [es, List.length_append]; omega
          rw [rd_lt hl2, rd_lt (show j < s.2.length by omega)]
          simp only [es]
          exact List.getElem_append_left (by omega)
        rw [ej] at hy
        by_cases e : j = i
        · subst e
          rcases hy with hy | hy
          · rw [b3]; exact List.mem_append_left _ (a5 y hy)
          · exact b5 y ((hhs.2 _ hx.1 hx.2 y).2 hy)
        · rw [es]; exact List.mem_append_left _ (h3 j (by omega) y hy)
    · rw [if_neg hlt]
      refine ⟨s.1, rfl, hp.len, fun x x0 x1 => ?_⟩
      rw [hp.iff x x0 x1]
      refine ⟨h2 x, fun hr => ?_⟩
      clear x0 x1
      induction hr with
      | base h => exact h1 _ h
      | step h he ih =>
        obtain ⟨j, hj, e⟩ := List.getElem_of_mem ih
        refine h3 j (by omega) _ ?_
        rw [rd_lt hj, e]
        exact he
/-! the numbers that are marked -/
def trues (inn : List Bool) : List Int := ((List.range inn.length).filter fun i : Nat => gb inn (i : Int)).map fun i : Nat => (i : Int)
theorem trues_mem {inn : List Bool} {x : Int} : x ∈ trues inn ↔ (0 ≤ x ∧ x < inn.length) ∧ gb inn x = true := by
  unfold trues
  simp only [List.mem_map, List.mem_filter, List.mem_range]
  constructor
  · rintro ⟨i, ⟨h1, h2⟩, rfl⟩
    exact ⟨⟨by omega, by omega⟩, h2⟩
  · rintro ⟨⟨h0, h1⟩, h2⟩
    exact ⟨x.toNat, ⟨by omega, by rw [show ((x.toNat : Nat) : Int) = x by omega]; exact h2⟩, by omega⟩
theorem trues_pw (inn : List Bool) : (trues inn).Pairwise (· < ·) := by
  unfold trues
  rw [List.pairwise_map]
  exact (List.pairwise_lt_range.filter _).imp (fun h => by omega)
theorem trues_len (inn : List Bool) : (trues inn).length ≤ inn.length := by
  unfold trues
  rw [List.length_map]
  exact Nat.le_trans (List.length_filter_le _ _) (by simp)
theorem marked_l0 (inn : List Bool) (hl : inn.length ≤ 1000000) : ∀ (d i : Nat), i + d = inn.length → ∀ acc : List Int, acc.length ≤ i → Ev (fun k => theory_marked.l0 k acc inn (inn.length : Int) i) (acc ++ (((List.range inn.length).drop i).filter fun j : Nat => gb inn (j : Int)).map fun j : Nat => (j : Int))
  | 0, i, hi, acc, ha => by
    refine Ev.step (fun _ => rfl) ?_
    rw [List.drop_of_length_le (by simp; omega)]
    simp only [theory_marked.l0, if_neg (show ¬ (i : Int) < (inn.length : Int) by omega), List.filter_nil, List.map_nil, List.append_nil]
    exact Ev.now _
  | d + 1, i, hi, acc, ha => by
    refine Ev.step (fun _ => rfl) ?_
    have hd : (List.range inn.length).drop i = i :: (List.range inn.length).drop (i + 1) := by
      rw [List.drop_eq_getElem_cons (by simp; omega)]; simp
    rw [hd, List.filter_cons]
    simp only [theory_marked.l0, if_pos (show (i : Int) < (inn.length : Int) by omega), if_pos (show (0 : Int) ≤ (i : Int) by omega), wr_succ (show i ≤ 140737488351232 by omega)]
    have eg : rdOf false inn (i : Int) = gb inn (i : Int) := rfl
    rw [eg]
    by_cases hg : gb inn (i : Int) = true
    · simp only [if_pos hg, if_pos (show acc.length < 17592186044416 by omega)]
      have := marked_l0 inn hl d (i + 1) (by omega) (acc ++ [(i : Int)]) (by simp; omega)
      simpa using this
    · simp only [if_neg hg]
      exact marked_l0 inn hl d (i + 1) (by omega) acc (by omega)
theorem marked_ev {inn : List Bool} (hl : inn.length ≤ 1000000) : Ev (fun k => theory_marked.f k inn) (trues inn) := by
  unfold theory_marked.f
  have := marked_l0 inn hl inn.length 0 (by omega) [] (by simp)
  simpa [trues] using this
/-- What Cone tells. -/
def ConeIs (a0 : Int) (fo : List (List Int)) (rs : List S36) (l x : List Int) : Prop := x.Pairwise (· < ·) ∧ x.length ≤ 4096 ∧ ∀ q, q ∈ x ↔ (0 ≤ q ∧ q < a0) ∧ Reach fo rs l q
theorem cone_ev {a0 : Int} {fo be : List (List Int)} {rs : List S36} {l : List Int} (hf : WfRows fo) (hb : WfRows be) : ∃ r, Ev (fun k => theory_Cone.f k a0 fo rs be l) r ∧ (r.2 = 0 → (chkS a0 fo rs be).1 = 0 ∧ (∀ q, q ∈ l → 0 ≤ q ∧ q < a0) ∧ ConeIs a0 fo rs l r.1) ∧ ((chkS a0 fo rs be).1 = 0 → (∀ q, q ∈ l → 0 ≤ q ∧ q < a0) → r.2 = 0) := by
  unfold theory_Cone.f
  by_cases hc : (chkS a0 fo rs be).1 = 0
  rotate_left
  · refine ⟨_, Ev.bind (check_ev hf hb) (by simp only [if_neg hc]; exact Ev.now _), fun h => absurd h hc, fun h => absurd h hc⟩
  have hfi := fine_of hc
  have han := hfi.an
  have hln := hfi.len
  obtain ⟨hs, h1, h2⟩ := heads_is hfi
  by_cases hall : l.all (fun q => decide (0 ≤ q) && decide (q < a0)) = true
  · have hl : ∀ q, q ∈ l → 0 ≤ q ∧ q < a0 := fun q hq => by have := List.all_eq_true.1 hall q hq; simpa using this
    have hp0 : PutOk a0.toNat (List.replicate a0.toNat false, []) := ⟨by simp, by simp, fun x _ _ => by simp [gb_rep], by simp⟩
    obtain ⟨s, a1, a2, ⟨t, a3, a4⟩, a5⟩ := putV_ok (by omega) hp0 (l := l) (fun x hx => by have := hl x hx; omega)
    obtain ⟨inn, b1, b2, b3⟩ := coneV_ok (n := a0.toNat) (by omega) (fo := fo) (hs := hs) (rs := rs) (fun x x0 x1 y hy => by
      have hx : x.toNat < fo.length := by omega
      have : nxL fo x = fo[x.toNat] := by have := nxL_get hx; rwa [show ((x.toNat : Nat) : Int) = x by omega] at this
      rw [rdL, this] at hy
      have := (hfi.row _ (List.getElem_mem hx)).2.1 y hy
      omega) h2 (fun r hr => by have := (hfi.rule r hr).2.1; omega) l (a0.toNat + 1) 0 s (by omega) (by omega) a2 (fun x hx => a5 x hx) (fun x hx => .base (a4 x (by rw [a3] at hx; simpa using hx))) (fun j hj => by omega)
    refine ⟨(trues inn, 0), ?_, fun _ => ⟨hc, hl, trues_pw inn, by have := trues_len inn; show (trues inn).length ≤ 4096; omega, fun q => ?_⟩, fun _ _ => rfl⟩
    · refine Ev.bind (check_ev hf hb) ?_
      simp only [if_pos hc, if_pos (show (0 ≤ a0 ∧ a0 ≤ 4096) ∧ fo.length = a0.toNat from ⟨han, by omega⟩), h1, Option.bind_some, if_pos hall, a1, b1]
      exact Ev.bind (marked_ev (by omega)) (Ev.now _)
    · rw [trues_mem, b2]
      constructor
      · rintro ⟨⟨q0, q1⟩, hg⟩
        exact ⟨⟨q0, by omega⟩, (b3 q q0 q1).1 hg⟩
      · rintro ⟨⟨q0, q1⟩, hr⟩
        exact ⟨⟨q0, by omega⟩, (b3 q q0 (by omega)).2 hr⟩
  · refine ⟨([], 91), ?_, fun h => absurd h (show ¬ (91 : Int) = 0 by decide), fun _ hl => ?_⟩
    · refine Ev.bind (check_ev hf hb) ?_
      simp only [if_pos hc, if_pos (show (0 ≤ a0 ∧ a0 ≤ 4096) ∧ fo.length = a0.toNat from ⟨han, by omega⟩), h1, Option.bind_some, if_neg hall]
      exact Ev.now _
    · exact absurd (List.all_eq_true.2 fun q hq => by have := hl q hq; simpa using this) hall
end Go.Proofs.Ytpcaonkahhbgfaa.P
/- Cones: what Cone tells of two lists together is what it tells of both; a cone's own cone is itself; a cone holds its list, the foes of its members and the heads of its members' rules. Over the functions that the program was printed as, whatever the theory and the lists. -/
namespace Go.Proofs.Ytpcaonkahhbgfaa.P
open Go.RowKit Go.Proofs.YtpcaonkahhbgfaaW.PrintWords Go.Proofs.Ytpcaonkahhbgfaa.K
set_option linter.unusedVariables false
set_option linter.unusedSimpArgs false

/-! both of two rising lists -/
theorem both_l0 {a b : List Int} (ha : a.Pairwise (· < ·)) (hb : b.Pairwise (· < ·)) (la : a.length ≤ 1000000) (lb : b.length ≤ 1000000) : ∀ (d i j : Nat) (acc : List Int), a.length - i + (b.length - j) ≤ d → i ≤ a.length → j ≤ b.length → acc.length ≤ i + j →
    ∃ u, Ev (fun k => lexpriorlaw12_both.l0 k a b acc i j) (acc ++ u) ∧ u.Pairwise (· < ·) ∧ ∀ z, z ∈ u ↔ z ∈ a.drop i ∨ z ∈ b.drop j := by
  intro d
  induction d with
  | zero =>
    intro i j acc hd hi hj hac
    refine ⟨[], ?_, .nil, fun z => ?_⟩
    · rw [List.append_nil]
      refine Ev.step (fun _ => rfl) ?_
      simp only [lexpriorlaw12_both.l0, if_neg (show ¬ (i : Int) < (a.length : Int) by omega), decide_eq_false (show ¬ (j : Int) < (b.length : Int) by omega)]
      refine Ev.step (fun _ => rfl) ?_
      simp only [lexpriorlaw12_both.j1, if_neg (show ¬ (false = true) by decide)]
      exact Ev.now _
    · rw [List.drop_of_length_le (by omega), List.drop_of_length_le (by omega)]; simp
  | succ d ih =>
    intro i j acc hd hi hj hac
    by_cases hi' : i < a.length
    · have da : a.drop i = a[i] :: a.drop (i + 1) := List.drop_eq_getElem_cons hi'
      have pa : ∀ z, z ∈ a.drop (i + 1) → a[i] < z := by
        have := ha.sublist (List.drop_sublist i a)
        rw [da] at this
        exact fun z hz => (List.pairwise_cons.1 this).1 z hz
      by_cases hj' : j < b.length
      · have db : b.drop j = b[j] :: b.drop (j + 1) := List.drop_eq_getElem_cons hj'
        have pb : ∀ z, z ∈ b.drop (j + 1) → b[j] < z := by
          have := hb.sublist (List.drop_sublist j b)
          rw [db] at this
          exact fun z hz => (List.pairwise_cons.1 this).1 z hz
        by_cases h1 : a[i] < b[j]
        · obtain ⟨u, e1, e2, e3⟩ := ih (i + 1) j (acc ++ [a[i]]) (by omega) (by omega) hj (by simp; omega)
          refine ⟨a[i] :: u, ?_, List.pairwise_cons.2 ⟨fun z hz => ?_, e2⟩, fun z => ?_⟩
          · refine Ev.step (fun _ => rfl) ?_
            simp only [lexpriorlaw12_both.l0, if_pos (show (i : Int) < (a.length : Int) by omega)]
            refine Ev.step (fun _ => rfl) ?_
            simp only [lexpriorlaw12_both.j1, if_true, if_neg (show ¬ (j : Int) = (b.length : Int) by omega), if_pos (show (i : Int) < (a.length : Int) by omega), if_pos (show (0 : Int) ≤ (i : Int) by omega), if_pos (show (0 : Int) ≤ (j : Int) by omega), if_pos (show (j : Int) < (b.length : Int) by omega), rd_lt hi', rd_lt hj', decide_eq_true h1]
            refine Ev.step (fun _ => rfl) ?_
            simp only [lexpriorlaw12_both.j2, if_true, if_pos (show (i : Int) < (a.length : Int) by omega), if_pos (show (0 : Int) ≤ (i : Int) by omega), if_pos (show acc.length < 17592186044416 by omega), rd_lt hi', wr_succ (show i ≤ 140737488351232 by omega)]
            rw [show acc ++ a[i] :: u = acc ++ [a[i]] ++ u by simp]
            exact e1
          · rcases (e3 z).1 hz with hz | hz
            · exact pa z hz
            · rw [db] at hz
              rcases List.mem_cons.1 hz with rfl | hz
              · exact h1
              · exact Int.lt_trans h1 (pb z hz)
          · rw [List.mem_cons, e3, da, List.mem_cons, or_assoc]
        · by_cases h2 : b[j] < a[i]
          · obtain ⟨u, e1, e2, e3⟩ := ih i (j + 1) (acc ++ [b[j]]) (by omega) hi (by omega) (by simp; omega)
            refine ⟨b[j] :: u, ?_, List.pairwise_cons.2 ⟨fun z hz => ?_, e2⟩, fun z => ?_⟩
            · refine Ev.step (fun _ => rfl) ?_
              simp only [lexpriorlaw12_both.l0, if_pos (show (i : Int) < (a.length : Int) by omega)]
              refine Ev.step (fun _ => rfl) ?_
              simp only [lexpriorlaw12_both.j1, if_true, if_neg (show ¬ (j : Int) = (b.length : Int) by omega), if_pos (show (i : Int) < (a.length : Int) by omega), if_pos (show (0 : Int) ≤ (i : Int) by omega), if_pos (show (0 : Int) ≤ (j : Int) by omega), if_pos (show (j : Int) < (b.length : Int) by omega), rd_lt hi', rd_lt hj', decide_eq_false h1]
              refine Ev.step (fun _ => rfl) ?_
              simp only [lexpriorlaw12_both.j2, if_neg (show ¬ (false = true) by decide), if_neg (show ¬ (i : Int) = (a.length : Int) by omega), if_pos (show (0 : Int) ≤ (j : Int) by omega), if_pos (show (j : Int) < (b.length : Int) by omega), if_pos (show (0 : Int) ≤ (i : Int) by omega), if_pos (show (i : Int) < (a.length : Int) by omega), rd_lt hi', rd_lt hj', if_pos h2, if_pos (show acc.length < 17592186044416 by omega), wr_succ (show j ≤ 140737488351232 by omega)]
              rw [show acc ++ b[j] :: u = acc ++ [b[j]] ++ u by simp]
              exact e1
            · rcases (e3 z).1 hz with hz | hz
              · rw [da] at hz
                rcases List.mem_cons.1 hz with rfl | hz
                · exact h2
                · exact Int.lt_trans h2 (pa z hz)
              · exact pb z hz
            · rw [List.mem_cons, e3, db, List.mem_cons]
              constructor
              · rintro (h | h | h)
                · exact .inr (.inl h)
                · exact .inl h
                · exact .inr (.inr h)
              · rintro (h | h | h)
                · exact .inr (.inl h)
                · exact .inl h
                · exact .inr (.inr h)
          · have he : a[i] = b[j] := by omega
            obtain ⟨u, e1, e2, e3⟩ := ih (i + 1) (j + 1) (acc ++ [a[i]]) (by omega) (by omega) (by omega) (by simp; omega)
            refine ⟨a[i] :: u, ?_, List.pairwise_cons.2 ⟨fun z hz => ?_, e2⟩, fun z => ?_⟩
            · refine Ev.step (fun _ => rfl) ?_
              simp only [lexpriorlaw12_both.l0, if_pos (show (i : Int) < (a.length : Int) by omega)]
              refine Ev.step (fun _ => rfl) ?_
              simp only [lexpriorlaw12_both.j1, if_true, if_neg (show ¬ (j : Int) = (b.length : Int) by omega), if_pos (show (i : Int) < (a.length : Int) by omega), if_pos (show (0 : Int) ≤ (i : Int) by omega), if_pos (show (0 : Int) ≤ (j : Int) by omega), if_pos (show (j : Int) < (b.length : Int) by omega), rd_lt hi', rd_lt hj', decide_eq_false h1]
              refine Ev.step (fun _ => rfl) ?_
              simp only [lexpriorlaw12_both.j2, if_neg (show ¬ (false = true) by decide), if_neg (show ¬ (i : Int) = (a.length : Int) by omega), if_pos (show (0 : Int) ≤ (j : Int) by omega), if_pos (show (j : Int) < (b.length : Int) by omega), if_pos (show (0 : Int) ≤ (i : Int) by omega), if_pos (show (i : Int) < (a.length : Int) by omega), rd_lt hi', rd_lt hj', if_neg h2, if_pos (show acc.length < 17592186044416 by omega), wr_succ (show i ≤ 140737488351232 by omega), wr_succ (show j ≤ 140737488351232 by omega)]
              rw [show acc ++ a[i] :: u = acc ++ [a[i]] ++ u by simp]
              exact e1
            · rcases (e3 z).1 hz with hz | hz
              · exact pa z hz
              · rw [he]; exact pb z hz
            · rw [List.mem_cons, e3, da, db, List.mem_cons, List.mem_cons, ← he]
              constructor
              · rintro (h | h | h)
                · exact .inl (.inl h)
                · exact .inl (.inr h)
                · exact .inr (.inr h)
              · rintro ((h | h) | h | h)
                · exact .inl h
                · exact .inr (.inl h)
                · exact .inl h
                · exact .inr (.inr h)
      · obtain ⟨u, e1, e2, e3⟩ := ih (i + 1) j (acc ++ [a[i]]) (by omega) (by omega) hj (by simp; omega)
        have db : b.drop j = [] := List.drop_of_length_le (by omega)
        refine ⟨a[i] :: u, ?_, List.pairwise_cons.2 ⟨fun z hz => ?_, e2⟩, fun z => ?_⟩
        · refine Ev.step (fun _ => rfl) ?_
          simp only [lexpriorlaw12_both.l0, if_pos (show (i : Int) < (a.length : Int) by omega)]
          refine Ev.step (fun _ => rfl) ?_
          simp only [lexpriorlaw12_both.j1, if_true, if_pos (show (j : Int) = (b.length : Int) by omega)]
          refine Ev.step (fun _ => rfl) ?_
          simp only [lexpriorlaw12_both.j2, if_true, if_pos (show (i : Int) < (a.length : Int) by omega), if_pos (show (0 : Int) ≤ (i : Int) by omega), if_pos (show acc.length < 17592186044416 by omega), rd_lt hi', wr_succ (show i ≤ 140737488351232 by omega)]
          rw [show acc ++ a[i] :: u = acc ++ [a[i]] ++ u by simp]
          exact e1
        · rcases (e3 z).1 hz with hz | hz
          · exact pa z hz
          · rw [db] at hz; cases hz
        · rw [List.mem_cons, e3, da, List.mem_cons, or_assoc]
    · have da : a.drop i = [] := List.drop_of_length_le (by omega)
      by_cases hj' : j < b.length
      · have db : b.drop j = b[j] :: b.drop (j + 1) := List.drop_eq_getElem_cons hj'
        have pb : ∀ z, z ∈ b.drop (j + 1) → b[j] < z := by
          have := hb.sublist (List.drop_sublist j b)
          rw [db] at this
          exact fun z hz => (List.pairwise_cons.1 this).1 z hz
        obtain ⟨u, e1, e2, e3⟩ := ih i (j + 1) (acc ++ [b[j]]) (by omega) hi (by omega) (by simp; omega)
        refine ⟨b[j] :: u, ?_, List.pairwise_cons.2 ⟨fun z hz => ?_, e2⟩, fun z => ?_⟩
        · refine Ev.step (fun _ => rfl) ?_
          simp only [lexpriorlaw12_both.l0, if_neg (show ¬ (i : Int) < (a.length : Int) by omega), decide_eq_true (show (j : Int) < (b.length : Int) by omega)]
          refine Ev.step (fun _ => rfl) ?_
          simp only [lexpriorlaw12_both.j1, if_true, if_neg (show ¬ (j : Int) = (b.length : Int) by omega), if_neg (show ¬ (i : Int) < (a.length : Int) by omega)]
          refine Ev.step (fun _ => rfl) ?_
          simp only [lexpriorlaw12_both.j2, if_neg (show ¬ (false = true) by decide), if_pos (show (i : Int) = (a.length : Int) by omega), if_pos (show (0 : Int) ≤ (j : Int) by omega), if_pos (show (j : Int) < (b.length : Int) by omega), if_pos (show acc.length < 17592186044416 by omega), rd_lt hj', wr_succ (show j ≤ 140737488351232 by omega)]
          rw [show acc ++ b[j] :: u = acc ++ [b[j]] ++ u by simp]
          exact e1
        · rcases (e3 z).1 hz with hz | hz
          · rw [da] at hz; cases hz
          · exact pb z hz
        · rw [List.mem_cons, e3, da, db, List.mem_cons]
          simp
      · refine ⟨[], ?_, .nil, fun z => ?_⟩
        · rw [List.append_nil]
          refine Ev.step (fun _ => rfl) ?_
          simp only [lexpriorlaw12_both.l0, if_neg (show ¬ (i : Int) < (a.length : Int) by omega), decide_eq_false (show ¬ (j : Int) < (b.length : Int) by omega)]
          refine Ev.step (fun _ => rfl) ?_
          simp only [lexpriorlaw12_both.j1, if_neg (show ¬ (false = true) by decide)]
          exact Ev.now _
        · rw [da, List.drop_of_length_le (show b.length ≤ j by omega)]; simp
theorem both_ev {a b : List Int} (ha : a.Pairwise (· < ·)) (hb : b.Pairwise (· < ·)) (la : a.length ≤ 1000000) (lb : b.length ≤ 1000000) : ∃ u, Ev (fun k => lexpriorlaw12_both.f k a b) u ∧ u.Pairwise (· < ·) ∧ ∀ z, z ∈ u ↔ z ∈ a ∨ z ∈ b := by
  unfold lexpriorlaw12_both.f
  simpa using both_l0 ha hb la lb (a.length + b.length) 0 0 [] (by omega) (by omega) (by omega) (by simp)

/-! the checks -/
section
variable {a0 : Int} {fo be : List (List Int)} {rs : List S36} {a A : List Int} (hf : Fine a0 fo rs be) (hc : ∀ x, x ∈ A → ∀ y, Edge fo rs x y → y ∈ A)
include hf hc
theorem cones_l5 {M : List Bool} (hM : (M.length : Int) = a0) (hm : ∀ x, 0 ≤ x → x < a0 → (gb M x = true ↔ x ∈ A)) {i : Nat} (hi : i < rs.length) (hn : Ev (fun k => lexpriorlaw12_TheoryCones.l4 k M ((i + 1 : Nat) : Int) a0 fo rs be) true) : ∀ (d j : Nat), j + d = rs[i].f2.length → Ev (fun k => lexpriorlaw12_TheoryCones.l5 k M i j a0 fo rs be) true := by
  have e : rd_T36 rs (i : Int) = rs[i] := by simp [rd_T36, List.getD_eq_getElem?_getD, List.getElem?_eq_getElem hi]
  have hru := hf.rule _ (List.getElem_mem hi)
  have h4 := hf.r4
  intro d
  induction d with
  | zero =>
    intro j hj
    refine Ev.step (fun _ => rfl) ?_
    simp only [lexpriorlaw12_TheoryCones.l5, e, if_pos (show (0 : Int) ≤ (i : Int) by omega), if_pos (show (i : Int) < (rs.length : Int) by omega), if_neg (show ¬ (j : Int) < (rs[i].f2.length : Int) by omega), wr_succ (show i ≤ 140737488351232 by omega)]
    exact hn
  | succ d ih =>
    intro j hj
    have hjl : j < rs[i].f2.length := by omega
    have hx := hru.2.2.2.1 _ (rd_mem hjl)
    have ej : rd rs[i].f2 (j : Int) = rd rs[i].f2 (j : Int) := rfl
    have hstep := ih (j + 1) (by omega)
    have hl16 := hru.2.2.1
    refine Ev.step (fun _ => rfl) ?_
    simp only [lexpriorlaw12_TheoryCones.l5, e, if_pos (show (0 : Int) ≤ (i : Int) by omega), if_pos (show (i : Int) < (rs.length : Int) by omega), if_pos (show (j : Int) < (rs[i].f2.length : Int) by omega), if_pos (show (0 : Int) ≤ (j : Int) by omega), if_pos hx.1, if_pos (show rd rs[i].f2 (j : Int) < (M.length : Int) by omega), wr_succ (show j ≤ 140737488351232 by omega), if_pos hru.2.1.1, if_pos (show rs[i].f1 < (M.length : Int) by omega)]
    by_cases hg : gb M (rd rs[i].f2 (j : Int)) = true
    · have hin := (hm _ hx.1 hx.2).1 hg
      have hh := (hm _ hru.2.1.1 hru.2.1.2).2 (hc _ hin _ (.inr ⟨rs[i], List.getElem_mem hi, rd_mem hjl, rfl⟩))
      simp only [if_pos (show rdOf false M (rd rs[i].f2 (j : Int)) = true from hg), if_pos (show rdOf false M rs[i].f1 = true from hh)]
      exact hstep
    · simp only [if_neg (show ¬ rdOf false M (rd rs[i].f2 (j : Int)) = true from hg)]
      exact hstep
theorem cones_l4 {M : List Bool} (hM : (M.length : Int) = a0) (hm : ∀ x, 0 ≤ x → x < a0 → (gb M x = true ↔ x ∈ A)) : ∀ (d i : Nat), i + d = rs.length → Ev (fun k => lexpriorlaw12_TheoryCones.l4 k M i a0 fo rs be) true := by
  intro d
  induction d with
  | zero =>
    intro i hi
    refine Ev.step (fun _ => rfl) ?_
    simp only [lexpriorlaw12_TheoryCones.l4, if_neg (show ¬ (i : Int) < (rs.length : Int) by omega)]
    exact Ev.now _
  | succ d ih =>
    intro i hi
    have hil : i < rs.length := by omega
    refine Ev.step (fun _ => rfl) ?_
    simp only [lexpriorlaw12_TheoryCones.l4, if_pos (show (i : Int) < (rs.length : Int) by omega)]
    exact cones_l5 hf hc hM hm hil (ih (i + 1) (by omega)) _ 0 (Nat.zero_add _)
theorem cones_l3 {M : List Bool} (hM : (M.length : Int) = a0) (hm : ∀ x, 0 ≤ x → x < a0 → (gb M x = true ↔ x ∈ A)) {i : Nat} (hi : i < fo.length) (hn : Ev (fun k => lexpriorlaw12_TheoryCones.l2 k M ((i + 1 : Nat) : Int) a0 fo rs be) true) : ∀ (d j : Nat), j + d = (nxL fo i).length → Ev (fun k => lexpriorlaw12_TheoryCones.l3 k M i j a0 fo rs be) true := by
  have hln := hf.len
  have han := hf.an
  have hrow := hf.row _ (List.getElem_mem hi)
  rw [← nxL_get hi] at hrow
  intro d
  induction d with
  | zero =>
    intro j hj
    refine Ev.step (fun _ => rfl) ?_
    simp only [lexpriorlaw12_TheoryCones.l3, rdL, if_pos (show (0 : Int) ≤ (i : Int) by omega), if_pos (show (i : Int) < (fo.length : Int) by omega), if_neg (show ¬ (j : Int) < ((nxL fo i).length : Int) by omega), wr_succ (show i ≤ 140737488351232 by omega)]
    exact hn
  | succ d ih =>
    intro j hj
    have hjl : j < (nxL fo (i : Int)).length := by omega
    have hx := hrow.2.1 _ (rd_mem hjl)
    have hstep := ih (j + 1) (by omega)
    have hl64 := hrow.1
    refine Ev.step (fun _ => rfl) ?_
    simp only [lexpriorlaw12_TheoryCones.l3, rdL, if_pos (show (0 : Int) ≤ (i : Int) by omega), if_pos (show (i : Int) < (fo.length : Int) by omega), if_pos (show (j : Int) < ((nxL fo i).length : Int) by omega), if_pos (show (i : Int) < (M.length : Int) by omega), if_pos (show (0 : Int) ≤ (j : Int) by omega), if_pos hx.1, if_pos (show rd (nxL fo (i : Int)) (j : Int) < (M.length : Int) by omega), wr_succ (show j ≤ 140737488351232 by omega)]
    by_cases hg : gb M (i : Int) = true
    · have hin := (hm _ (by omega) (by omega)).1 hg
      have hh := (hm _ hx.1 hx.2).2 (hc _ hin _ (.inl (rd_mem hjl)))
      simp only [if_pos (show rdOf false M (i : Int) = true from hg), if_pos (show rdOf false M (rd (nxL fo (i : Int)) (j : Int)) = true from hh)]
      exact hstep
    · simp only [if_neg (show ¬ rdOf false M (i : Int) = true from hg)]
      exact hstep
theorem cones_l2 {M : List Bool} (hM : (M.length : Int) = a0) (hm : ∀ x, 0 ≤ x → x < a0 → (gb M x = true ↔ x ∈ A)) : ∀ (d i : Nat), ((i + d : Nat) : Int) = a0 → Ev (fun k => lexpriorlaw12_TheoryCones.l2 k M i a0 fo rs be) true := by
  have hln := hf.len
  intro d
  induction d with
  | zero =>
    intro i hi
    refine Ev.step (fun _ => rfl) ?_
    simp only [lexpriorlaw12_TheoryCones.l2, if_neg (show ¬ (i : Int) < a0 by omega)]
    exact cones_l4 hf hc hM hm rs.length 0 (Nat.zero_add _)
  | succ d ih =>
    intro i hi
    refine Ev.step (fun _ => rfl) ?_
    simp only [lexpriorlaw12_TheoryCones.l2, if_pos (show (i : Int) < a0 by omega)]
    exact cones_l3 hf hc hM hm (i := i) (by omega) (ih (i + 1) (by omega)) _ 0 (Nat.zero_add _)
theorem cones_l1 (hr : ∀ x, x ∈ A → 0 ≤ x ∧ x < a0) (hin : ∀ x, x ∈ a → x ∈ A) (la : a.length ≤ 140737488351232) {M : List Bool} (hM : (M.length : Int) = a0) (hm : ∀ x, 0 ≤ x → x < a0 → (gb M x = true ↔ x ∈ A)) : ∀ (d i : Nat), i + d = a.length → Ev (fun k => lexpriorlaw12_TheoryCones.l1 k a M i a0 fo rs be) true := by
  have han := hf.an
  intro d
  induction d with
  | zero =>
    intro i hi
    refine Ev.step (fun _ => rfl) ?_
    simp only [lexpriorlaw12_TheoryCones.l1, if_neg (show ¬ (i : Int) < (a.length : Int) by omega)]
    exact cones_l2 hf hc hM hm a0.toNat 0 (by omega)
  | succ d ih =>
    intro i hi
    have hil : i < a.length := by omega
    have hA := hin _ (rd_mem hil)
    have hx := hr _ hA
    refine Ev.step (fun _ => rfl) ?_
    simp only [lexpriorlaw12_TheoryCones.l1, if_pos (show (i : Int) < (a.length : Int) by omega), if_pos (show (0 : Int) ≤ (i : Int) by omega), if_pos hx.1, if_pos (show rd a (i : Int) < (M.length : Int) by omega), wr_succ (show i ≤ 140737488351232 by omega)]
    simp only [if_pos (show rdOf false M (rd a (i : Int)) = true from (hm _ hx.1 hx.2).2 hA)]
    exact ih (i + 1) (by omega)
theorem cones_l0 (hr : ∀ x, x ∈ A → 0 ≤ x ∧ x < a0) (hin : ∀ x, x ∈ a → x ∈ A) (la : a.length ≤ 140737488351232) (lA : A.length ≤ 1000000) : ∀ (d i : Nat) (M : List Bool), i + d = A.length → (M.length : Int) = a0 → (∀ x, 0 ≤ x → x < a0 → (gb M x = true ↔ ∃ j : Nat, j < i ∧ rd A (j : Int) = x)) → Ev (fun k => lexpriorlaw12_TheoryCones.l0 k a A M i a0 fo rs be) true := by
  intro d
  induction d with
  | zero =>
    intro i M hi hM hm
    refine Ev.step (fun _ => rfl) ?_
    simp only [lexpriorlaw12_TheoryCones.l0, if_neg (show ¬ (i : Int) < (A.length : Int) by omega)]
    refine cones_l1 hf hc hr hin la hM (fun x x0 x1 => ?_) a.length 0 (Nat.zero_add _)
    rw [hm x x0 x1]
    constructor
    · rintro ⟨j, hj, rfl⟩
      exact rd_mem (by omega)
    · intro hx
      obtain ⟨j, hj, e⟩ := List.getElem_of_mem hx
      exact ⟨j, by omega, by rw [rd_lt hj]; exact e⟩
  | succ d ih =>
    intro i M hi hM hm
    have hil : i < A.length := by omega
    have hx := hr _ (rd_mem hil)
    refine Ev.step (fun _ => rfl) ?_
    simp only [lexpriorlaw12_TheoryCones.l0, if_pos (show (i : Int) < (A.length : Int) by omega), if_pos (show (0 : Int) ≤ (i : Int) by omega), if_pos hx.1, if_pos (show rd A (i : Int) < (M.length : Int) by omega), wr_succ (show i ≤ 140737488351232 by omega)]
    refine ih (i + 1) _ (by omega) (by rw [List.length_set]; exact hM) (fun x x0 x1 => ?_)
    rw [gb_set hx.1 x0 (by omega)]
    constructor
    · intro h
      split at h
      · next e => exact ⟨i, by omega, e.symm⟩
      · obtain ⟨j, hj, e⟩ := (hm x x0 x1).1 h
        exact ⟨j, by omega, e⟩
    · rintro ⟨j, hj, e⟩
      split
      · rfl
      · next hne =>
        refine (hm x x0 x1).2 ⟨j, ?_, e⟩
        rcases Nat.lt_succ_iff_lt_or_eq.1 hj with h | h
        · exact h
        · subst h; exact absurd e.symm hne
end
/-! whatever the theory and the lists -/
theorem ConeIs.same {a0 : Int} {fo : List (List Int)} {rs : List S36} {l m x y : List Int} (h1 : ConeIs a0 fo rs l x) (h2 : ConeIs a0 fo rs m y) (h : ∀ q, 0 ≤ q → q < a0 → (Reach fo rs l q ↔ Reach fo rs m q)) : x = y :=
  rise_ext h1.1 h2.1 (fun q => by
    rw [h1.2.2, h2.2.2]
    exact ⟨fun hq => ⟨hq.1, (h q hq.1.1 hq.1.2).1 hq.2⟩, fun hq => ⟨hq.1, (h q hq.1.1 hq.1.2).2 hq.2⟩⟩)
theorem edge_in {a0 : Int} {fo be : List (List Int)} {rs : List S36} (hf : Fine a0 fo rs be) {x y : Int} (hx : 0 ≤ x ∧ x < a0) (h : Edge fo rs x y) : 0 ≤ y ∧ y < a0 := by
  rcases h with h | ⟨r, hr, _, rfl⟩
  · have hln := hf.len
    have hl : x.toNat < fo.length := by omega
    have e : nxL fo x = fo[x.toNat] := by have := nxL_get hl; rwa [show ((x.toNat : Nat) : Int) = x by omega] at this
    rw [e] at h
    exact (hf.row _ (List.getElem_mem hl)).2.1 y h
  · exact (hf.rule r hr).2.1
theorem cones_ev {a0 : Int} {fo be : List (List Int)} {rs : List S36} {a b : List Int} (h1 : WfRows fo) (h2 : WfRows be) (la : a.length ≤ 1048576) (lb : b.length ≤ 1048576) : Ev (fun k => lexpriorlaw12_TheoryCones.f k a0 fo rs be a b) true := by
  unfold lexpriorlaw12_TheoryCones.f
  refine Ev.bind works12_ev ?_
  simp only [if_true]
  obtain ⟨ra, e1, k1, _⟩ := cone_ev (a0 := a0) (rs := rs) (l := a) h1 h2
  obtain ⟨rb, e2, k2, _⟩ := cone_ev (a0 := a0) (rs := rs) (l := b) h1 h2
  have hno : Ev (fun k => lexpriorlaw12_TheoryCones.j0 k a b ra.1 rb.1 true a0 fo rs be) true := by
    refine Ev.step (fun _ => rfl) ?_
    simp only [lexpriorlaw12_TheoryCones.j0, if_true]
    exact Ev.now _
  refine Ev.bind e1 (Ev.bind e2 ?_)
  by_cases z1 : ra.2 = 0
  rotate_left
  · simp only [if_neg z1]; exact hno
  simp only [if_pos z1]
  by_cases z2 : rb.2 = 0
  rotate_left
  · simp only [bne_iff_ne.2 z2]; exact hno
  obtain ⟨c0, ga, ia⟩ := k1 z1
  obtain ⟨_, gb', ib⟩ := k2 z2
  obtain ⟨rc, e3, k3, v3⟩ := cone_ev (a0 := a0) (rs := rs) (l := a ++ b) h1 h2
  obtain ⟨rd', e4, k4, v4⟩ := cone_ev (a0 := a0) (rs := rs) (l := ra.1) h1 h2
  have z3 := v3 c0 (fun q hq => (List.mem_append.1 hq).elim (ga q) (gb' q))
  have z4 := v4 c0 (fun q hq => ((ia.2.2 q).1 hq).1)
  obtain ⟨_, _, ic⟩ := k3 z3
  obtain ⟨_, _, id⟩ := k4 z4
  obtain ⟨u, e5, hu1, hu2⟩ := both_ev ia.1 ib.1 (by have := ia.2.1; omega) (by have := ib.2.1; omega)
  have same4 : rd'.1 = ra.1 := id.same ia (fun q q0 q1 => ⟨fun h => h.mono (fun x hx => ((ia.2.2 x).1 hx).2), fun h => h.mono (fun x hx => .base ((ia.2.2 x).2 ⟨ga x hx, .base hx⟩))⟩)
  have same3 : rc.1 = u := rise_ext ic.1 hu1 (fun q => by
    rw [ic.2.2, hu2, ia.2.2, ib.2.2, Reach.app]
    constructor
    · rintro ⟨h, h' | h'⟩
      · exact .inl ⟨h, h'⟩
      · exact .inr ⟨h, h'⟩
    · rintro (⟨h, h'⟩ | ⟨h, h'⟩)
      · exact ⟨h, .inl h'⟩
      · exact ⟨h, .inr h'⟩)
  have hfi := fine_of c0
  have han := hfi.an
  have hj1 : Ev (fun k => lexpriorlaw12_TheoryCones.l0 k a ra.1 (List.replicate a0.toNat false) 0 a0 fo rs be) true := by
    refine cones_l0 hfi (fun x hx y hy => ?_) (fun x hx => ((ia.2.2 x).1 hx).1) (fun x hx => (ia.2.2 x).2 ⟨ga x hx, .base hx⟩) (by omega) (by have := ia.2.1; omega) ra.1.length 0 _ (Nat.zero_add _) (by rw [List.length_replicate]; omega) (fun x _ _ => ?_)
    · have hx' := (ia.2.2 x).1 hx
      exact (ia.2.2 y).2 ⟨edge_in hfi hx'.1 hy, hx'.2.step hy⟩
    · rw [gb_rep]
      simp
  have e3' : (rb.2 != 0) = false := by simp [z2]
  rw [e3']
  refine Ev.step (fun _ => rfl) ?_
  simp only [lexpriorlaw12_TheoryCones.j0, if_neg (show ¬ (false = true) by decide), Option.bind_some, List.nil_append, List.length_nil, if_pos (show 0 + a.length < 17592186044416 by omega), if_pos (show a.length + b.length < 17592186044416 by omega)]
  refine Ev.bind e3 (Ev.bind e4 ?_)
  simp only [if_pos z3, if_pos z4, same4]
  refine Ev.bind (sameI_refl _ (by have := ia.2.1; omega)) ?_
  simp only [if_true]
  refine Ev.bind e5 ?_
  rw [same3]
  refine Ev.bind (sameI_refl _ (by rw [← same3]; have := ic.2.1; omega)) ?_
  simp only [if_true, if_pos han.1, if_pos (show a0.toNat ≤ 281474976710656 by omega)]
  exact hj1
end Go.Proofs.Ytpcaonkahhbgfaa.P
namespace Go.Proofs.Ytpcaonkahhbgfaa.Pure
open Go.RowKit Go.Proofs.YtpcaonkahhbgfaaW.PrintWords Go.Proofs.Ytpcaonkahhbgfaa.P
theorem TheoryCones : ∀ t, WfThy t → ∀ a : List Int, WfInts a → a.length ≤ 1048576 → ∀ b : List Int, WfInts b → b.length ≤ 1048576 → ∃ k, lexpriorlaw12_TheoryCones.f k t.1 t.2.1 t.2.2.1 t.2.2.2 a b = some true := fun _ ht _ _ la _ _ lb =>
  (cones_ev ht.2.1.1 ht.2.2.2.1 la lb).rounds
end Go.Proofs.Ytpcaonkahhbgfaa.Pure
