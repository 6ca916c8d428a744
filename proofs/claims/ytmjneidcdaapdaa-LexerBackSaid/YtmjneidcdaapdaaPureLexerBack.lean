/- LexerBack, plainly: the tokens of the joined tokens are the tokens. -/
import Derived.Test.YtmjneidcdaapdaaLexX
import Derived.Test.YtmjneidcdaapdaaPx3
namespace Go.Proofs.Ytmjneidcdaapdaa.Pure
open Go.RowKit Go.Proofs.Ytmjneidcdaapdaa.P Go.Proofs.YtmjneidcdaapdaaW.PrintWords Go.Proofs.YtmjneidcdaapdaaW.PrintLast
theorem works_ok : lexpriorlaw04_works.f = some true := by kernel_rfl
theorem wr64 {x : Int} (h0 : -9223372036854775808 ≤ x) (h1 : x ≤ 9223372036854775807) : wrap64 x = x := by unfold wrap64; omega
theorem sc64 (n : Nat) (h : n ≤ 1000000) : wrap64 ((n : Int) + 1) = ((n + 1 : Nat) : Int) := (wr64 (by omega) (by omega)).trans (by omega)
theorem text_f (t : Tk) (h : SelfT t) (k : Nat) (hk : 1 ≤ k) : lexer_Text.f k t.f0 t.f1 t.f2 = some (rawT t, 0) := by
  obtain ⟨k, rfl⟩ : ∃ m, k = m + 1 := ⟨k - 1, by omega⟩
  unfold lexer_Text.f
  unfold SelfT at h
  unfold rawT
  by_cases h5 : t.f0 = 5
  · rw [if_pos h5] at h ⊢
    obtain ⟨h1, h2⟩ := h
    rw [if_neg (by omega)]
    have hc : strings_ContainsAny.f t.f1 (⟨#[34, 10]⟩ : ByteArray) = some false := by
      unfold strings_ContainsAny.f
      rw [if_pos ⟨rfl, by omega⟩, h2]
    rw [hc, if_pos h5]
    have z1 : ((⟨#[34]⟩ : ByteArray) ++ t.f1).size = 1 + t.f1.size := by simp [ByteArray.size_append]; rfl
    simp only [Option.bind_some, lexer_Text.j0, z1]
    rw [if_neg (by simp), if_pos (by omega), if_pos (by omega)]
  · rw [if_neg h5] at h ⊢
    rw [if_neg h5]
    unfold lexer_Tokens.f
    simp only [Option.bind_some, h, if_true]
    rw [if_pos (by rfl), if_pos (by simp)]
    have e : rd_T76 [(⟨t.f0, t.f1, 0⟩ : Tk)] 0 = ⟨t.f0, t.f1, 0⟩ := rfl
    rw [e]
    simp
theorem join_long (k : Nat) (hk : 1 ≤ k) (acc : ByteArray) : ∀ (l : List Tk) (i : Nat), (∀ t ∈ l, SelfN t) → lexer_Join.l k l i acc true = some ((⟨#[]⟩ : ByteArray), 5, ((i + l.length : Nat) : Int))
  | [], i, _ => rfl
  | t :: l, i, h => by
    have ht := h t List.mem_cons_self
    have hz := (raw_one t ht).2.1
    unfold lexer_Join.l
    rw [text_f t ht.self k hk]
    simp only [Option.bind_some, if_true, Bool.true_or]
    rw [if_pos (by omega), join_long k hk acc l (i + 1) (fun x hx => h x (List.mem_cons_of_mem _ hx))]
    rw [show i + 1 + l.length = i + (t :: l).length by rw [List.length_cons]; omega]
def endJ (x : ByteArray) (n : Nat) : ByteArray × Int × Int := if 65536 < x.size then ((⟨#[]⟩ : ByteArray), 5, (n : Int)) else (x, 0, (n : Int))
theorem join_short (k : Nat) (hk : 1 ≤ k) : ∀ (l : List Tk) (i : Nat) (acc : ByteArray), 0 < i → acc.size ≤ 65536 → (∀ t ∈ l, SelfN t) → lexer_Join.l k l i acc false = some (endJ (acc ++ tailB l) (i + l.length))
  | [], i, acc, hi, ha, _ => by
    have e : acc ++ tailB [] = acc := by apply ba_ext; simp [tailB]
    unfold lexer_Join.l endJ
    rw [e, if_neg (by simp), if_neg (by omega)]
    rfl
  | t :: l, i, acc, hi, ha, h => by
    have ht := h t List.mem_cons_self
    have hz := (raw_one t ht).2.1
    have hl := fun x hx => h x (List.mem_cons_of_mem t hx)
    have el : i + 1 + l.length = i + (t :: l).length := by rw [List.length_cons]; omega
    unfold lexer_Join.l
    rw [text_f t ht.self k hk]
    simp only [Option.bind_some, if_true, Bool.false_or, if_pos hi]
    rw [if_pos (by omega)]
    obtain ⟨x, hx⟩ : ∃ x, x = (⟨#[32]⟩ : ByteArray) ++ rawT t := ⟨_, rfl⟩
    rw [← hx]
    have e : acc ++ tailB (t :: l) = (acc ++ x) ++ tailB l := by rw [hx]; apply ba_ext; simp [tailB]
    rw [e, ← el]
    by_cases hov : 65536 < acc.size + x.size
    · rw [decide_eq_true hov, if_pos rfl, join_long k hk acc l (i + 1) hl]
      unfold endJ
      rw [if_pos (by simp only [ByteArray.size_append]; omega)]
    · rw [decide_eq_false hov, if_neg (by simp)]
      exact join_short k hk l (i + 1) (acc ++ x) (by omega) (by rw [ByteArray.size_append]; omega) hl
theorem join_f (k : Nat) (hk : 1 ≤ k) (l : List Tk) (h : ∀ t ∈ l, SelfN t) : lexer_Join.f k l = some (endJ (joinB l) l.length) := by
  unfold lexer_Join.f
  cases l with
  | nil => rfl
  | cons t l =>
    have ht := h t List.mem_cons_self
    have hz := (raw_one t ht).2.1
    have hl := fun x hx => h x (List.mem_cons_of_mem t hx)
    have el : 0 + 1 + l.length = (t :: l).length := by rw [List.length_cons]; omega
    have e0 : ((⟨#[]⟩ : ByteArray)) ++ rawT t = rawT t := by apply ba_ext; simp
    have z0 : ((⟨#[]⟩ : ByteArray)).size = 0 := rfl
    unfold lexer_Join.l
    rw [text_f t ht.self k hk]
    simp only [Option.bind_some, if_true, Bool.false_or, if_neg (Nat.lt_irrefl 0), z0, Nat.zero_add, e0]
    rw [if_pos (by omega)]
    by_cases hov : 65536 < (rawT t).size
    · rw [decide_eq_true hov, if_pos rfl]
      have := join_long k hk (⟨#[]⟩ : ByteArray) l 1 hl
      rw [show 1 + l.length = (t :: l).length by omega] at this
      rw [this]
      unfold endJ joinB
      rw [if_pos (by simp only [ByteArray.size_append]; omega)]
    · rw [decide_eq_false hov, if_neg (by simp)]
      have := join_short k hk l 1 (rawT t) (by omega) (by omega) hl
      rw [show 1 + l.length = (t :: l).length by omega] at this
      exact this
theorem same_l0 (L M : List Tk) (hk : L.map keyT = M.map keyT) (hL : L.length ≤ 200000) (d : Nat) : ∀ (k i : Nat), i ≤ L.length → L.length - i = d → d + 1 ≤ k → lexpriorlaw04_sameButAt.l0 k L M i = some true := by
  have hlen : L.length = M.length := by have := congrArg List.length hk; simpa using this
  induction d with
  | zero =>
    intro k i hi hd hkd
    obtain ⟨k, rfl⟩ : ∃ m, k = m + 1 := ⟨k - 1, by omega⟩
    simp only [lexpriorlaw04_sameButAt.l0]
    rw [if_neg (by omega)]
  | succ d IH =>
    intro k i hi hd hkd
    obtain ⟨k, rfl⟩ : ∃ m, k = m + 1 := ⟨k - 1, by omega⟩
    have h1 : i < L.length := by omega
    have h2 : i < M.length := by omega
    have hx : keyT L[i] = keyT M[i] := by
      have := congrArg (fun x => x[i]?) hk
      simpa [List.getElem?_map, List.getElem?_eq_getElem h1, List.getElem?_eq_getElem h2] using this
    have eL : rd_T76 L (i : Int) = L[i] := by
      unfold rd_T76
      rw [Int.toNat_natCast, List.getD_eq_getElem?_getD, List.getElem?_eq_getElem h1]
      rfl
    have eM : rd_T76 M (i : Int) = M[i] := by
      unfold rd_T76
      rw [Int.toNat_natCast, List.getD_eq_getElem?_getD, List.getElem?_eq_getElem h2]
      rfl
    unfold keyT at hx
    simp only [Prod.mk.injEq] at hx
    simp only [lexpriorlaw04_sameButAt.l0, eL, eM, sc64 i (by omega)]
    rw [if_pos (by omega), if_pos (by omega), if_pos (by omega), if_pos hx.1, if_pos (by rw [hx.2])]
    exact IH k (i + 1) (by omega) (by omega) (by omega)
theorem scanF_pl (s : ByteArray) (d : Nat) : ∀ (p : Nat) (T : List Tk) (R : List ByteArray), p ≤ s.size → s.size - p ≤ d → ((scanF s p T R).2.2.1 = 0 → (scanF s p T R).2.2.2 = s.size) ∧ ((scanF s p T R).2.2.1 ≠ 0 → (scanF s p T R).1 = []) := by
  induction d with
  | zero =>
    intro p T R hp hd
    rw [scanF_end (by omega)]
    exact ⟨fun _ => rfl, fun x => absurd rfl x⟩
  | succ d IH =>
    intro p T R hp hd
    by_cases hlt : p < s.size
    · rcases hr : (nexP s p T R).1 with _ | _
      · rw [scanF_no hlt hr]
        exact ⟨fun x => absurd x ((nexP_adv T R hlt).2 hr), fun _ => rfl⟩
      · have hav := (nexP_adv T R hlt).1 hr
        rw [scanF_go hlt hr]
        exact IH _ _ _ hav.2.1 (by omega)
    · rw [scanF_end hlt]
      exact ⟨fun _ => rfl, fun x => absurd rfl x⟩
theorem LexerBack : lexpriorlaw04_LexerBack.Pure := by
  intro s hs
  refine ⟨300000, ?_⟩
  unfold lexpriorlaw04_LexerBack.f lexer_Tokens.f
  rw [works_ok]
  simp only [Option.bind_some, if_true]
  by_cases hbig : 65536 < s.size
  · have : scanP s = ([], [], 5, 0) := by unfold scanP; rw [if_pos hbig]
    rw [this]
    rw [if_neg (by decide)]
    rfl
  · have ps : scanP s = scanF s 0 [] [] := by unfold scanP; rw [if_neg hbig]
    obtain ⟨h1, h2⟩ := scanF_pl s s.size 0 [] [] (by omega) (by omega)
    by_cases e : (scanP s).2.2.1 = 0
    · rw [if_pos e]
      obtain ⟨hT, hw⟩ := scan_inv s (by omega) s.size 0 [] [] (by omega) (by omega) (by rw [← ps]; exact e) (fun t ht => by cases ht) (by simp [wtT])
      rw [← ps] at hT hw
      obtain ⟨l, hl⟩ : ∃ l, l = (scanP s).1 := ⟨_, rfl⟩
      rw [← hl] at hT hw ⊢
      have hlen := wt_len l
      have hjs := join_size l
      rw [join_f 300000 (by omega) l hT]
      unfold endJ
      simp only [Option.bind_some]
      by_cases hov : 65536 < (joinB l).size
      · rw [if_pos hov]
        simp only
        rw [if_pos trivial, if_pos (by omega)]
        simp
      · rw [if_neg hov]
        simp only
        rw [if_neg (by decide), if_pos trivial, if_pos trivial]
        have pj : scanP (joinB l) = scanF (joinB l) 0 [] [] := by unfold scanP; rw [if_neg hov]
        obtain ⟨j1, j2⟩ := join_scan l hT
        have j3 := (scanF_pl (joinB l) (joinB l).size 0 [] [] (by omega) (by omega)).1 j1
        rw [← pj] at j1 j2 j3
        rw [if_pos j1, if_pos j3]
        unfold lexpriorlaw04_sameButAt.f
        have hlen2 : l.length = (scanP (joinB l)).1.length := by have := congrArg List.length j2; simp at this; omega
        rw [if_pos (by omega)]
        have := same_l0 l (scanP (joinB l)).1 j2.symm (by omega) l.length 300000 0 (by omega) (by omega) (by omega)
        rw [show ((0 : Nat) : Int) = 0 from rfl] at this
        rw [this]
        rfl
    · rw [if_neg e, ps, h2 (by rw [← ps]; exact e)]
      rfl
end Go.Proofs.Ytmjneidcdaapdaa.Pure
