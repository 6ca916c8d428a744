/- Plain laws of wire: both encoders lay the same bytes. -/
import Derived.Test.YtccoeecladhfmaaWir1
import Derived.Test.YtccoeecladhfmaaWOct2
namespace Go.Proofs.Ytccoeecladhfmaa.P
open Go.RowKit Go.Proofs.YtccoeecladhfmaaW.PrintWords Go.Proofs.YtccoeecladhfmaaW.PrintLast

def vC (c : S54) : List Int := vlq (c.f0 + 1).toNat ++ vlq (c.f1 + 1).toNat
def cP : List S54 → List Int
  | [] => []
  | c :: cs => vC c ++ cP cs
def sP (s : S52) : List Int := s.f0 :: (vlq s.f1.toNat ++ (s.f2 :: (vlq (s.f3 + 1).toNat ++ (vlq s.f4.length ++ cP s.f4))))
def bP : List S52 → List Int
  | [] => []
  | s :: l => sP s ++ bP l
def tP (l : List S52) : List Int := [108, 120, 100, 1] ++ (vlq l.length ++ bP l)
def encP (l : List S52) : List Int := tP l ++ litL (crcL (tP l))
theorem uu {n : Int} (h0 : 0 ≤ n) (h1 : n ≤ 9223372036854775807) {k : Nat} (hk : 11 ≤ k) : uuF k n = some (vlq n.toNat) := by
  obtain ⟨m, rfl⟩ := Int.eq_ofNat_of_zero_le h0
  unfold uuF octets_Uint.f
  rw [IntKind.wrap_u64, show (m : Int) % 18446744073709551616 = (m : Int) from by omega, Int.toNat_natCast]
  exact uint_l0 9 m k [] (Nat.lt_of_lt_of_le (show m < 18446744073709551616 by omega) (by decide)) (by decide) (by omega)
theorem ruu {n : Int} (h0 : 0 ≤ n) (h1 : n ≤ 9223372036854775807) {k : Nat} (hk : 11 ≤ k) : lexpriorref01_Uint.f k (IntKind.u64.wrap n) = some (vlq n.toNat) := by
  obtain ⟨m, rfl⟩ := Int.eq_ofNat_of_zero_le h0
  rw [IntKind.wrap_u64, show (m : Int) % 18446744073709551616 = (m : Int) from by omega, Int.toNat_natCast]
  exact ruint_f 9 m k (Nat.lt_of_lt_of_le (show m < 18446744073709551616 by omega) (by decide)) (by omega) (by omega) (by omega)
theorem vlqN {n : Int} (h : n ≤ 9223372036854775807) : (vlq n.toNat).length ≤ 10 := vlq_len10 _ (by omega)
theorem vC_len {c : S54} (h : choOk c = true) : (vC c).length ≤ 20 := by
  have h := (choOk_iff _).1 h
  have h1 := @vlqN (c.f0 + 1) (by omega)
  have h2 := @vlqN (c.f1 + 1) (by omega)
  unfold vC
  rw [List.length_append]
  omega
theorem cP_len : ∀ {cs : List S54}, cs.all choOk = true → (cP cs).length ≤ 20 * cs.length
  | [], _ => by simp [cP]
  | c :: cs, h => by
    rw [List.all_cons, Bool.and_eq_true] at h
    have h1 := vC_len h.1
    have h2 := cP_len h.2
    rw [cP, List.length_append, List.length_cons]
    omega
theorem sP_len {s : S52} (h : stpOk s = true) : (sP s).length ≤ 100000 := by
  have h := (stpOk_iff _).1 h
  have h1 := @vlqN s.f1 (by omega)
  have h2 := @vlqN (s.f3 + 1) (by omega)
  have h3 := vlq_len10 s.f4.length (by omega)
  have h4 := cP_len h.2
  unfold sP
  simp only [List.length_append, List.length_cons]
  omega
theorem bP_len : ∀ {l : List S52}, l.all stpOk = true → (bP l).length ≤ 100000 * l.length
  | [], _ => by simp [bP]
  | s :: l, h => by
    rw [List.all_cons, Bool.and_eq_true] at h
    have h1 := sP_len h.1
    have h2 := bP_len h.2
    rw [bP, List.length_append, List.length_cons]
    omega
theorem tP_len {l : List S52} (h : l.all stpOk = true) (hl : l.length ≤ 65536) : (tP l).length ≤ 10000000000 := by
  have h1 := bP_len h
  have h2 := vlq_len10 l.length (by omega)
  unfold tP
  simp only [List.length_append, List.length_cons, List.length_nil]
  omega
theorem bytes_app {a b : List Int} (ha : Bytes a) (hb : Bytes b) : Bytes (a ++ b) := fun x hx => (List.mem_append.1 hx).elim (ha x) (hb x)
theorem bytes_cons {a : Int} {b : List Int} (ha : 0 ≤ a ∧ a ≤ 255) (hb : Bytes b) : Bytes (a :: b) := fun x hx => by
  rcases List.mem_cons.1 hx with rfl | hx
  · have := ha; omega
  · exact hb x hx
theorem bytes_nil : Bytes [] := fun _ hx => by cases hx
theorem cP_bytes : ∀ (cs : List S54), Bytes (cP cs)
  | [] => bytes_nil
  | _ :: cs => bytes_app (bytes_app (vlq_bytes _) (vlq_bytes _)) (cP_bytes cs)
theorem sP_bytes {s : S52} (h : stpOk s = true) : Bytes (sP s) := by
  have h := (stpOk_iff _).1 h
  exact bytes_cons (by omega) (bytes_app (vlq_bytes _) (bytes_cons (by omega) (bytes_app (vlq_bytes _) (bytes_app (vlq_bytes _) (cP_bytes _)))))
theorem bP_bytes : ∀ {l : List S52}, l.all stpOk = true → Bytes (bP l)
  | [], _ => bytes_nil
  | s :: l, h => by
    rw [List.all_cons, Bool.and_eq_true] at h
    exact bytes_app (sP_bytes h.1) (bP_bytes h.2)
theorem tP_bytes {l : List S52} (h : l.all stpOk = true) : Bytes (tP l) :=
  bytes_app (bytes_cons (by omega) (bytes_cons (by omega) (bytes_cons (by omega) (bytes_cons (by omega) bytes_nil)))) (bytes_app (vlq_bytes _) (bP_bytes h))

/-! the program's -/
theorem choE {k : Nat} (hk : 11 ≤ k) : ∀ {cs : List S54}, cs.all choOk = true → choB k cs = some (cP cs)
  | [], _ => rfl
  | c :: cs, h => by
    rw [List.all_cons, Bool.and_eq_true] at h
    have h1 := (choOk_iff _).1 h.1
    rw [choB, w64 (by omega) (by omega), uu (by omega) (by omega) hk, w64 (by omega) (by omega), uu (by omega) (by omega) hk, choE hk h.2]
    simp only [Option.bind_some, cP, vC, List.append_assoc]
theorem stpE {k : Nat} (hk : 11 ≤ k) {s : S52} (h : stpOk s = true) : stpB k s = some (sP s) := by
  have h := (stpOk_iff _).1 h
  rw [stpB, uu (by omega) (by omega) hk, w64 (by omega) (by omega), uu (by omega) (by omega) hk, uu (by omega) (by omega) hk, choE hk h.2, show s.f0 % 256 = s.f0 by omega, show s.f2 % 256 = s.f2 by omega]
  simp only [Option.bind_some, Int.toNat_natCast]
  rfl
theorem allE {k : Nat} (hk : 11 ≤ k) : ∀ {l : List S52}, l.all stpOk = true → allB k l = some (bP l)
  | [], _ => rfl
  | s :: l, h => by
    rw [List.all_cons, Bool.and_eq_true] at h
    rw [allB, stpE hk h.1, allE hk h.2]
    rfl
theorem chkL_zero : ∀ (l : List S52) (i : Int), (chkL l i).1 = if l.all stpOk = true then 0 else 201
  | [], _ => rfl
  | s :: l, i => by
    rw [chkL, List.all_cons]
    by_cases h : stpOk s = true
    · rw [if_pos h, chkL_zero l, h]; rfl
    · rw [if_neg h, if_neg (by simp [h])]
def fine (l : List S52) : Prop := l.length ≤ 65536 ∧ l.all stpOk = true
theorem chk_zero (l : List S52) : (chk l).1 = 0 ↔ fine l := by
  unfold chk fine
  by_cases h : 65536 < l.length
  · rw [if_pos h]
    exact ⟨fun h => absurd h (by decide), fun h2 => by omega⟩
  · rw [if_neg h, chkL_zero]
    by_cases z : l.all stpOk = true
    · rw [if_pos z]; exact ⟨fun _ => ⟨by omega, z⟩, fun _ => rfl⟩
    · rw [if_neg z]; exact ⟨fun h => absurd h (by decide), fun h2 => absurd h2.2 z⟩
theorem vlq_pos (n : Nat) : 0 < (vlq n).length := by
  by_cases h : n < 128
  · rw [vlq_small h]; simp
  · rw [vlq_big h]; simp
theorem enc_ok (l : List S52) (h : fine l) (k : Nat) (hk : 69640 < k) : wire_Encode.f k l = some (encP l, 0) := by
  have hc := (chk_zero l).2 h
  have ht := tP_len h.2 h.1
  unfold wire_Encode.f
  rw [check l k hk]
  simp only [Option.bind_some]
  rw [if_pos hc, uu (by omega) (by have := h.1; omega) (by omega), allE (by omega) h.2]
  simp only [Option.bind_some, Int.toNat_natCast]
  unfold endB
  rw [if_pos ⟨vlq_pos _, by unfold tP at ht; omega⟩]
  rfl
theorem enc_bad (l : List S52) (h : ¬ fine l) (k : Nat) (hk : 69640 < k) : wire_Encode.f k l = some ([], (chk l).1) := by
  unfold wire_Encode.f
  rw [check l k hk]
  simp only [Option.bind_some]
  rw [if_neg (fun hz => h ((chk_zero l).1 hz))]

/-! the document's -/
theorem renc_l1 (x0 : List S52) (x7 : Int) (a b c e : Int) (cs : List S54) (hcs : cs.all choOk = true) (hl : cs.length ≤ 4096) (K : Nat) (hK : 11 ≤ K) (tot : List Int) (ht : tot.length ≤ 10000000000) (R : List Int × Int)
    (hR : ∀ k, K ≤ k → lexpriorref21_Encode.l0 k x0 tot (wrap64 (x7 + 1)) = some R) (d : Nat) :
    ∀ (k i : Nat) (acc : List Int), i ≤ cs.length → cs.length - i = d → K + d < k → acc ++ cP (cs.drop i) = tot → lexpriorref21_Encode.l1 k x0 acc x7 i a b c e cs = some R := by
  induction d with
  | zero =>
    intro k i acc h1 h2 hk hacc
    obtain ⟨k, rfl⟩ : ∃ m, k = m + 1 := ⟨k - 1, by omega⟩
    simp only [lexpriorref21_Encode.l1]
    rw [List.drop_eq_nil_of_le (by omega), cP, List.append_nil] at hacc
    rw [if_neg (by omega), hacc]
    exact hR k (by omega)
  | succ d ih =>
    intro k i acc h1 h2 hk hacc
    obtain ⟨k, rfl⟩ : ∃ m, k = m + 1 := ⟨k - 1, by omega⟩
    have hlt : i < cs.length := by omega
    have hc := (choOk_iff _).1 (List.all_eq_true.1 hcs cs[i] (List.getElem_mem hlt))
    rw [List.drop_eq_getElem_cons hlt, cP, vC] at hacc
    have hlen := congrArg List.length hacc
    simp only [List.length_append] at hlen
    simp only [lexpriorref21_Encode.l1]
    rw [if_pos (by omega), if_pos (by omega), rd54_lt hlt, w64 (by omega) (by omega), ruu (by omega) (by omega) (by omega)]
    simp only [Option.bind_some]
    rw [if_pos (by omega), w64 (by omega) (by omega), ruu (by omega) (by omega) (by omega)]
    simp only [Option.bind_some]
    rw [if_pos (by rw [List.length_append]; omega), w64 (by omega) (by omega)]
    exact ih k (i + 1) _ (by omega) (by omega) (by omega) (by rw [← hacc]; simp only [List.append_assoc])
theorem renc_l0 (l : List S52) (hf : fine l) (tot : List Int) (hb : Bytes tot) (ht : tot.length ≤ 10000000000) (d : Nat) :
    ∀ (k i : Nat) (acc : List Int), i ≤ l.length → l.length - i = d → 100000000100 + 4200 * d < k → acc ++ bP (l.drop i) = tot → lexpriorref21_Encode.l0 k l acc i = some (tot ++ litL (crcL tot), 0) := by
  induction d with
  | zero =>
    intro k i acc h1 h2 hk hacc
    obtain ⟨k, rfl⟩ : ∃ m, k = m + 1 := ⟨k - 1, by omega⟩
    simp only [lexpriorref21_Encode.l0]
    rw [List.drop_eq_nil_of_le (by omega), bP, List.append_nil] at hacc
    subst hacc
    rw [if_neg (by omega)]
    have hsum : lexpriorref01_Sum.f k acc = some (crcL acc) := by
      unfold lexpriorref01_Sum.f crcL crcF
      exact rsum_l0 acc hb (by omega) acc.length k 0 4294967295 (by decide) (by omega) (by omega) (by omega)
    rw [hsum]
    simp only [Option.bind_some, lexpriorref21_Little.f]
    rw [if_pos (by simp only [List.length_cons, List.length_nil]; omega)]
    rfl
  | succ d ih =>
    intro k i acc h1 h2 hk hacc
    obtain ⟨k, rfl⟩ : ∃ m, k = m + 1 := ⟨k - 1, by omega⟩
    have hlt : i < l.length := by omega
    have hs := (stpOk_iff _).1 (List.all_eq_true.1 hf.2 l[i] (List.getElem_mem hlt))
    have hll := hf.1
    rw [List.drop_eq_getElem_cons hlt, bP] at hacc
    have hlen := congrArg List.length hacc
    rw [sP] at hlen
    simp only [List.length_append, List.length_cons] at hlen
    simp only [lexpriorref21_Encode.l0]
    rw [if_pos (by omega), if_pos (by omega), if_pos (by omega), rd52_lt hlt, ruu (by omega) (by omega) (by omega), w64 (show -9223372036854775808 ≤ l[i].f3 + 1 by omega) (by omega), ruu (show 0 ≤ l[i].f3 + 1 by omega) (by omega) (by omega), ruu (by omega) (by omega) (by omega),
      show l[i].f0 % 256 = l[i].f0 by omega, show l[i].f2 % 256 = l[i].f2 by omega]
    simp only [Option.bind_some, Int.toNat_natCast]
    rw [if_pos (by simp only [List.length_append, List.length_cons, List.length_nil]; omega), if_pos (by simp only [List.length_append, List.length_cons, List.length_nil]; omega), if_pos (by simp only [List.length_append, List.length_cons, List.length_nil]; omega), if_pos (by simp only [List.length_append, List.length_cons, List.length_nil]; omega)]
    have hlen2 := congrArg List.length hacc
    rw [List.length_append, List.length_append] at hlen2
    refine renc_l1 l i _ _ _ _ l[i].f4 hs.2 (by omega) (100000000101 + 4200 * d) (by omega) (acc ++ sP l[i]) (by rw [List.length_append]; omega) _ (fun k' hk' => ?_) l[i].f4.length k 0 _ (by omega) (by omega) (by omega) ?_
    · rw [w64 (by omega) (by omega)]
      exact ih k' (i + 1) _ (by omega) (by omega) (by omega) (by rw [← hacc, List.append_assoc])
    · rw [List.drop_zero, sP]
      simp only [List.append_assoc, List.cons_append, List.nil_append]
theorem renc_ok (l : List S52) (h : fine l) (k : Nat) (hk : 500000000000 < k) : lexpriorref21_Encode.f k l = some (encP l, 0) := by
  have hc := (chk_zero l).2 h
  have ht := tP_len h.2 h.1
  have hl := h.1
  unfold lexpriorref21_Encode.f
  rw [rcheck l k (by omega)]
  simp only [Option.bind_some]
  rw [if_pos hc, ruu (by omega) (by omega) (by omega)]
  simp only [Option.bind_some, Int.toNat_natCast]
  have hlen := vlq_len10 l.length (by omega)
  rw [if_pos (by simp only [List.length_cons, List.length_nil]; omega)]
  exact renc_l0 l h (tP l) (tP_bytes h.2) ht l.length k 0 _ (by omega) (by omega) (by omega) (by rw [List.drop_zero, tP, List.append_assoc])
theorem renc_bad (l : List S52) (h : ¬ fine l) (k : Nat) (hk : 500000000000 < k) : lexpriorref21_Encode.f k l = some ([], (chk l).1) := by
  unfold lexpriorref21_Encode.f
  rw [rcheck l k (by omega)]
  simp only [Option.bind_some]
  rw [if_neg (fun hz => h ((chk_zero l).1 hz))]
theorem alive_ (k : Nat) (hk : 69640 < k) : lexpriorlaw21_alive.f k = some true := by
  have hf : fine [(⟨1, 0, 1, (-1), []⟩ : S52)] := ⟨by decide, by decide⟩
  have he : encP [(⟨1, 0, 1, (-1), []⟩ : S52)] = lexpriorlaw21_alive.B := by
    have ht : tP [(⟨1, 0, 1, (-1), []⟩ : S52)] = [108, 120, 100, 1, 1, 1, 0, 1, 0, 0] := by
      simp [tP, bP, sP, cP, vlq_small]
    unfold encP
    rw [ht]
    decide +kernel
  unfold lexpriorlaw21_alive.f
  rw [enc_ok _ hf k hk]
  simp only [Option.bind_some]
  rw [he, if_pos rfl]
end Go.Proofs.Ytccoeecladhfmaa.P
