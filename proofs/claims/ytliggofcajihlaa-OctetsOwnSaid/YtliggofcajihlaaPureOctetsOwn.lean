/- For every number and all texts: what Uint, Text and Unhex answer is the caller's own: asked again with other answers overwritten, it stays. No condition beyond the form's own. -/
import Derived.Test.YtliggofcajihlaaOct1
namespace Go.Proofs.Ytliggofcajihlaa.Pure
open Go.RowKit Go.Proofs.Ytliggofcajihlaa.P Go.Proofs.YtliggofcajihlaaW.PrintWords Go.Proofs.YtliggofcajihlaaW.PrintLast

theorem own_l2 (n : Nat) (hn : n < 18446744073709551616) (s : ByteArray) (hs : s.size ≤ 140737488351232) (c d : List Int) (hcd : c = d) (hc : c.length ≤ 9223372036854775806) :
    ∃ K, ∀ (m : Nat) (k : Nat) (z : List Int) (i : Nat), i ≤ z.length → z.length ≤ 9223372036854775806 → z.length - i = m → m + K < k →
      lexpriorlaw01_OctetsOwn.l2 k (n : Int) s (vlq n) (vlq s.size ++ bytesOf s) c d z i = some true := by
  subst hcd
  have hln := vlq_len10 n hn
  have hlen := vlq_len10 s.size (by omega)
  obtain ⟨K1, h1⟩ := ruint n hn
  obtain ⟨K2, h2⟩ := rtext s hs
  obtain ⟨K3, h3⟩ := sameB (vlq n) (vlq n) (by omega)
  obtain ⟨K4, h4⟩ := sameB (vlq s.size ++ bytesOf s) (vlq s.size ++ bytesOf s) (by rw [List.length_append, bytesOf_length]; omega)
  obtain ⟨K5, h5⟩ := sameB c c hc
  refine ⟨K1 + K2 + K3 + K4 + K5, fun m => ?_⟩
  induction m with
  | zero =>
    intro k z i h0 hz hm hk
    obtain ⟨k, rfl⟩ : ∃ m, k = m + 1 := ⟨k - 1, by omega⟩
    simp only [lexpriorlaw01_OctetsOwn.l2]
    rw [if_neg (by omega)]
    simp only [h1 k (by omega), h2 k (by omega), h3 k (by omega), h4 k (by omega), h5 k (by omega), Option.bind_some, decide_true, if_true]
  | succ m ih =>
    intro k z i h0 hz hm hk
    obtain ⟨k, rfl⟩ : ∃ m, k = m + 1 := ⟨k - 1, by omega⟩
    simp only [lexpriorlaw01_OctetsOwn.l2]
    rw [if_pos (by omega), if_pos (by omega), w64 (by omega) (by omega)]
    exact ih k (z.set i 85) (i + 1) (by rw [List.length_set]; omega) (by rw [List.length_set]; omega) (by rw [List.length_set]; omega) (by omega)
theorem own_l1 (n : Nat) (s : ByteArray) (c d z : List Int) (a b : List Int) (hz : z.length ≤ 9223372036854775806) (K : Nat)
    (h : ∀ k, z.length + K < k → lexpriorlaw01_OctetsOwn.l2 k (n : Int) s a b c d z 0 = some true) (m : Nat) : ∀ (k : Nat) (y : List Int) (i : Nat), i ≤ y.length → y.length ≤ 9223372036854775806 → y.length - i = m → m + z.length + K + 1 < k →
      lexpriorlaw01_OctetsOwn.l1 k (n : Int) s a b c d y z i = some true := by
  induction m with
  | zero =>
    intro k y i h0 hy hm hk
    obtain ⟨k, rfl⟩ : ∃ m, k = m + 1 := ⟨k - 1, by omega⟩
    simp only [lexpriorlaw01_OctetsOwn.l1]
    rw [if_neg (by omega)]
    exact h k (by omega)
  | succ m ih =>
    intro k y i h0 hy hm hk
    obtain ⟨k, rfl⟩ : ∃ m, k = m + 1 := ⟨k - 1, by omega⟩
    simp only [lexpriorlaw01_OctetsOwn.l1]
    rw [if_pos (by omega), if_pos (by omega), w64 (by omega) (by omega)]
    exact ih k (y.set i 85) (i + 1) (by rw [List.length_set]; omega) (by rw [List.length_set]; omega) (by rw [List.length_set]; omega) (by omega)
theorem own_l0 (n : Nat) (s : ByteArray) (c d y z : List Int) (a b : List Int) (K : Nat)
    (h : ∀ k, K < k → lexpriorlaw01_OctetsOwn.l1 k (n : Int) s a b c d y z 0 = some true) (m : Nat) : ∀ (k : Nat) (x : List Int) (i : Nat), i ≤ x.length → x.length ≤ 9223372036854775806 → x.length - i = m → m + K + 1 < k →
      lexpriorlaw01_OctetsOwn.l0 k (n : Int) s a b c d x y z i = some true := by
  induction m with
  | zero =>
    intro k x i h0 hx hm hk
    obtain ⟨k, rfl⟩ : ∃ m, k = m + 1 := ⟨k - 1, by omega⟩
    simp only [lexpriorlaw01_OctetsOwn.l0]
    rw [if_neg (by omega)]
    exact h k (by omega)
  | succ m ih =>
    intro k x i h0 hx hm hk
    obtain ⟨k, rfl⟩ : ∃ m, k = m + 1 := ⟨k - 1, by omega⟩
    simp only [lexpriorlaw01_OctetsOwn.l0]
    rw [if_pos (by omega), if_pos (by omega), w64 (by omega) (by omega)]
    exact ih k (x.set i 85) (i + 1) (by rw [List.length_set]; omega) (by rw [List.length_set]; omega) (by rw [List.length_set]; omega) (by omega)
theorem OctetsOwn : lexpriorlaw01_OctetsOwn.Pure := by
  intro a0 a1 a2 w0 hs ht
  obtain ⟨n, rfl, hn⟩ : ∃ n : Nat, a0 = n ∧ n < 18446744073709551616 := by
    have : 0 ≤ a0 ∧ a0 ≤ 18446744073709551615 := by simpa [Lit.wf, IntKind.min, IntKind.max, IntKind.signed, IntKind.bits] using w0
    exact ⟨a0.toNat, by omega, by omega⟩
  have hun : octets_Unhex.f a2 = some (uh a2) := by unfold octets_Unhex.f; rw [if_pos (by omega)]
  have huh : (uh a2).1.length ≤ 140737488351232 := by
    unfold uh
    split
    · simp
    · split
      · simp
      · simp only [uhOut_len]; omega
  have hln := vlq_len10 n hn
  have hlen := vlq_len10 a1.size (by omega)
  have hlt : (vlq a1.size ++ bytesOf a1).length ≤ 140737488351242 := by rw [List.length_append, bytesOf_length]; omega
  obtain ⟨K1, h1⟩ := uint n hn
  obtain ⟨K2, h2⟩ := text a1 hs
  obtain ⟨K3, h3⟩ := copyB (uh a2).1 huh
  obtain ⟨K4, h4⟩ := own_l2 n hn a1 hs (uh a2).1 (uh a2).1 rfl (by omega)
  have h5 := own_l1 n a1 (uh a2).1 (uh a2).1 (uh a2).1 (vlq n) (vlq a1.size ++ bytesOf a1) (by omega) K4 (fun k hk => h4 (uh a2).1.length k (uh a2).1 0 (by omega) (by omega) (by omega) (by omega)) (vlq a1.size ++ bytesOf a1).length
  have h6 := own_l0 n a1 (uh a2).1 (uh a2).1 (vlq a1.size ++ bytesOf a1) (uh a2).1 (vlq n) (vlq a1.size ++ bytesOf a1) ((vlq a1.size ++ bytesOf a1).length + (uh a2).1.length + K4 + 1)
    (fun k hk => h5 k (vlq a1.size ++ bytesOf a1) 0 (by omega) (by omega) (by omega) (by omega)) (vlq n).length
  have ht : ∀ k, K1 + K2 + K3 + ((vlq a1.size ++ bytesOf a1).length + (uh a2).1.length + K4 + 1) + 13 ≤ k → lexpriorlaw01_OctetsOwn.f k (n : Int) a1 a2 = some true := by
    intro k hk
    unfold lexpriorlaw01_OctetsOwn.f lexpriorlaw01_alive.f
    simp only [h1 k (by omega), h2 k (by omega), hun, h3 k (by omega), Option.bind_some, if_true]
    exact h6 k (vlq n) 0 (by omega) (by omega) (by omega) (by omega)
  exact ⟨_, ht _ (Nat.le_refl _)⟩

end Go.Proofs.Ytliggofcajihlaa.Pure
