/- A theory's bytes, plain: what Decode reads was laid so, and what is laid is read so. -/
import Derived.Test.YteblkanjgnbkkaaThyE
namespace Go.Proofs.Yteblkanjgnbkkaa.P
open Go.RowKit Go.Proofs.YteblkanjgnbkkaaW.PrintWords Go.Proofs.Yteblkanjgnbkkaa.K
set_option linter.unusedVariables false
set_option linter.unusedSimpArgs false

/-! numbers and lists, back -/
theorem num_bk {l : List Int} {p n : Nat} {least most e : Int} {rest : List Int} (hp : p ≤ l.length) (h : l.drop p = vlq n ++ rest) (h0 : 0 ≤ least) (h1 : least ≤ n) (h2 : (n : Int) ≤ most) (hm : most ≤ 1000000) :
    numT l p least most e = .ok ((n : Int), ((p + (vlq n).length : Nat) : Int)) ∧ p + (vlq n).length ≤ l.length ∧ l.drop (p + (vlq n).length) = rest := by
  have hl : l = l.take p ++ vlq n ++ rest := by rw [List.append_assoc, ← h, List.take_append_drop]
  have hr := ru_back n (by omega) (l.take p) rest
  rw [← hl, List.length_take, Nat.min_eq_left hp] at hr
  refine ⟨?_, ?_, ?_⟩
  · unfold numT
    rw [hr]
    simp only
    rw [if_neg (by decide), IntKind.wrap_u64, IntKind.wrap_u64, if_neg (by omega), if_neg (by omega), if_neg (by omega), w64 (by omega) (by omega)]
    rfl
  · have := congrArg List.length h
    rw [List.length_drop, List.length_append] at this
    omega
  · rw [← List.drop_drop, h, List.drop_left' rfl]
theorem num_rd {l : List Int} (hb : Bytes l) {p : Nat} {least most e v q : Int} (h : numT l p least most e = .ok (v, q)) (hp : p ≤ l.length) (h0 : 0 ≤ least) (hl1 : least ≤ 1000000) (hm : most ≤ 1000000) :
    ∃ n q' : Nat, v = n ∧ q = q' ∧ least ≤ n ∧ (n : Int) ≤ most ∧ p ≤ q' ∧ q' ≤ l.length ∧ l.drop p = vlq n ++ l.drop q' := by
  have hr := numT_rng h h0 hm hl1
  unfold numT at h
  simp only at h
  by_cases h1 : (ru l p).2.2 ≠ 0
  · rw [if_pos h1] at h; cases h
  · rw [if_neg h1] at h
    have h1 : (ru l p).2.2 = 0 := Classical.not_not.1 h1
    have e : ru l p = ruGo p l.length (l.drop p) 0 ((0 : Nat) : Int) := by
      unfold ru
      rw [if_neg (by omega), Int.toNat_natCast]
      rfl
    rw [e] at h1 h
    obtain ⟨n, _, g1, g2, g3, g4, g5⟩ := ruGo_read p l.length (l.drop p) 0 0 (fun x hx => hb x (List.mem_of_mem_drop hx)) (by omega) (by decide) h1
    simp only [Nat.mul_zero, Nat.pow_zero, Nat.mul_one, Nat.zero_add] at g1 g2
    rw [g2, g3, IntKind.wrap_u64, IntKind.wrap_u64] at h
    by_cases h2 : (n : Int) < least % 18446744073709551616
    · rw [if_pos h2] at h; cases h
    rw [if_neg h2] at h
    by_cases h3 : most % 18446744073709551616 < (n : Int)
    · rw [if_pos h3] at h; cases h
    rw [if_neg h3] at h
    by_cases h4 : most < least
    · rw [if_pos h4] at h; cases h
    rw [if_neg h4, w64 (by omega) (by omega)] at h
    obtain ⟨rfl, rfl⟩ := Prod.mk.inj (Except.ok.inj h)
    rw [List.length_drop] at g4
    refine ⟨n, p + (vlq n).length, rfl, by omega, by omega, by omega, by omega, by omega, ?_⟩
    rw [← List.drop_drop, ← List.take_append_drop (vlq n).length (l.drop p), g5]
    congr 1
    rw [List.drop_left' rfl]
theorem ruGo_er (a len : Int) : ∀ (l : List Int) (i : Nat) (n : Int), (ruGo a len l i n).2.2 ≠ 0 → (ruGo a len l i n).2.1 = len ∨ (ruGo a len l i n).2.1 = a
  | [], _, _, _ => .inl rfl
  | c :: l, i, n, h => by
    unfold ruGo at h ⊢
    by_cases h1 : i = 9 ∧ 1 < c
    · simp [if_pos h1]
    · simp only [if_neg h1] at h ⊢
      by_cases h2 : 128 ≤ c
      · simp only [if_pos h2] at h ⊢
        exact ruGo_er a len l (i + 1) _ h
      · simp only [if_neg h2] at h ⊢
        by_cases h3 : c = 0 ∧ 0 < i
        · simp [if_pos h3]
        · simp [if_neg h3] at h
theorem num_er {l : List Int} {p least most e er q : Int} (h : numT l p least most e = .error (er, q)) (h0 : 0 ≤ p) (hp : p ≤ l.length) (he : e ≠ 0) : er ≠ 0 ∧ 0 ≤ q ∧ q ≤ l.length := by
  unfold numT at h
  simp only at h
  by_cases h1 : (ru l p).2.2 ≠ 0
  · rw [if_pos h1] at h
    simp only [Except.error.injEq, Prod.mk.injEq] at h
    obtain ⟨rfl, rfl⟩ := h
    refine ⟨h1, ?_⟩
    unfold ru at h1 ⊢
    rw [if_neg (by omega)] at h1 ⊢
    rcases ruGo_er _ _ _ _ _ h1 with h | h <;> rw [h] <;> omega
  · rw [if_neg h1] at h
    split at h
    · simp only [Except.error.injEq, Prod.mk.injEq] at h; obtain ⟨rfl, rfl⟩ := h; exact ⟨he, h0, hp⟩
    · split at h
      · simp only [Except.error.injEq, Prod.mk.injEq] at h; obtain ⟨rfl, rfl⟩ := h; exact ⟨he, h0, hp⟩
      · split at h
        · simp only [Except.error.injEq, Prod.mk.injEq] at h; obtain ⟨rfl, rfl⟩ := h; exact ⟨he, h0, hp⟩
        · cases h
theorem lisT_bk {l : List Int} {n er : Int} (hn0 : 0 ≤ n) (hn : n ≤ 1000000) : ∀ (xs : List Int) (p : Nat) (least : Int) (rest : List Int), p ≤ l.length → 0 ≤ least → (∀ x, x ∈ xs → least ≤ x ∧ x < n) → xs.Pairwise (· < ·) → l.drop p = numsP xs ++ rest →
    lisT l n er xs.length p least = .ok (xs, ((p + (numsP xs).length : Nat) : Int)) ∧ p + (numsP xs).length ≤ l.length ∧ l.drop (p + (numsP xs).length) = rest
  | [], p, least, rest, hp, _, _, _, h => ⟨rfl, hp, h⟩
  | x :: xs, p, least, rest, hp, h0, hx, hs, h => by
    have hxx := hx x List.mem_cons_self
    have e : numsP (x :: xs) = vlq x.toNat ++ numsP xs := by simp [numsP, uP]
    rw [e, List.append_assoc] at h
    have ew : wrap64 (n - 1) = n - 1 := by unfold wrap64; omega
    obtain ⟨a1, a2, a3⟩ := num_bk (least := least) (most := n - 1) (e := er) hp h h0 (by omega) (by omega) (by omega)
    have hpw := List.pairwise_cons.1 hs
    obtain ⟨b1, b2, b3⟩ := lisT_bk hn0 hn xs _ (x + 1) rest a2 (by omega) (fun y hy => ⟨by have := hpw.1 y hy; omega, (hx y (List.mem_cons_of_mem _ hy)).2⟩) hpw.2 a3
    have el : p + (numsP (x :: xs)).length = p + (vlq x.toNat).length + (numsP xs).length := by rw [e, List.length_append]; omega
    rw [el]
    refine ⟨?_, b2, b3⟩
    show lisT l n er (xs.length + 1) p least = _
    simp only [lisT, ew, a1]
    rw [show ((x.toNat : Nat) : Int) = x by omega, show wrap64 (x + 1) = x + 1 by unfold wrap64; omega, b1]
theorem listT_bk {l : List Int} {most least n er : Int} (hn0 : 0 ≤ n) (hn : n ≤ 1000000) (hm : most ≤ 1000000) {xs : List Int} {p : Nat} {rest : List Int} (hp : p ≤ l.length) (h0 : 0 ≤ least) (hx : ∀ x, x ∈ xs → least ≤ x ∧ x < n) (hs : xs.Pairwise (· < ·)) (hl : (xs.length : Int) ≤ most) (h : l.drop p = lisP xs ++ rest) :
    listT l p most least n er = .ok (xs, ((p + (lisP xs).length : Nat) : Int)) ∧ p + (lisP xs).length ≤ l.length ∧ l.drop (p + (lisP xs).length) = rest := by
  unfold lisP at h ⊢
  rw [List.append_assoc] at h
  obtain ⟨a1, a2, a3⟩ := num_bk (least := 0) (most := most) (e := 3) hp h (by omega) (by omega) hl hm
  obtain ⟨b1, b2, b3⟩ := lisT_bk (er := er) hn0 hn xs _ least rest a2 h0 hx hs a3
  rw [List.length_append, ← Nat.add_assoc]
  refine ⟨?_, b2, b3⟩
  unfold listT
  simp only [a1, Int.toNat_natCast]
  exact b1
theorem lisT_rd {l : List Int} (hb : Bytes l) {n er : Int} (hn0 : 0 ≤ n) (hn : n ≤ 1000000) : ∀ (d p : Nat) (least : Int) (xs : List Int) (q : Int), lisT l n er d p least = .ok (xs, q) → p ≤ l.length → 0 ≤ least → least ≤ 1000000 →
    ∃ q' : Nat, q = q' ∧ p ≤ q' ∧ q' ≤ l.length ∧ xs.length = d ∧ (∀ x, x ∈ xs → least ≤ x ∧ x < n) ∧ xs.Pairwise (· < ·) ∧ l.drop p = numsP xs ++ l.drop q'
  | 0, p, least, xs, q, h, hp, _, _ => by
    simp only [lisT, Except.ok.injEq, Prod.mk.injEq] at h
    obtain ⟨rfl, rfl⟩ := h
    exact ⟨p, rfl, Nat.le_refl _, hp, rfl, by simp, List.Pairwise.nil, rfl⟩
  | d + 1, p, least, xs, q, h, hp, h0, h1 => by
    have ew : wrap64 (n - 1) = n - 1 := by unfold wrap64; omega
    simp only [lisT, ew] at h
    rcases hx : numT l p least (n - 1) er with z | ⟨x, p1⟩
    · rw [hx] at h; cases h
    rw [hx] at h
    simp only at h
    obtain ⟨m, p1', rfl, rfl, a1, a2, a3, a4, a5⟩ := num_rd hb hx hp h0 h1 (by omega)
    rw [show wrap64 ((m : Int) + 1) = (m : Int) + 1 by unfold wrap64; omega] at h
    rcases hy : lisT l n er d p1' ((m : Int) + 1) with z | ⟨ys, p2⟩
    · rw [hy] at h; cases h
    rw [hy] at h
    simp only [Except.ok.injEq, Prod.mk.injEq] at h
    obtain ⟨rfl, rfl⟩ := h
    obtain ⟨q', rfl, b1, b2, b3, b4, b5, b6⟩ := lisT_rd hb hn0 hn d p1' _ ys p2 hy a4 (by omega) (by omega)
    refine ⟨q', rfl, by omega, b2, by simp [b3], fun y hy => ?_, List.pairwise_cons.2 ⟨fun y hy => by have := (b4 y hy).1; omega, b5⟩, ?_⟩
    · rcases List.mem_cons.1 hy with rfl | hy
      · omega
      · have := b4 y hy; omega
    · have e : numsP ((m : Int) :: ys) = vlq m ++ numsP ys := by simp [numsP, uP]
      rw [e, List.append_assoc, ← b6, a5]
theorem listT_rd {l : List Int} (hb : Bytes l) {p : Nat} {most least n er : Int} {xs : List Int} {q : Int} (h : listT l p most least n er = .ok (xs, q)) (hp : p ≤ l.length) (hm : most ≤ 1000000) (hn0 : 0 ≤ n) (hn : n ≤ 1000000) (h0 : 0 ≤ least) (h1 : least ≤ 1000000) :
    ∃ q' : Nat, q = q' ∧ p ≤ q' ∧ q' ≤ l.length ∧ (xs.length : Int) ≤ most ∧ (∀ x, x ∈ xs → least ≤ x ∧ x < n) ∧ xs.Pairwise (· < ·) ∧ l.drop p = lisP xs ++ l.drop q' := by
  unfold listT at h
  rcases hx : numT l p 0 most 3 with z | ⟨c, p1⟩
  · rw [hx] at h; cases h
  rw [hx] at h
  simp only at h
  obtain ⟨m, p1', rfl, rfl, a1, a2, a3, a4, a5⟩ := num_rd hb hx hp (by omega) (by omega) hm
  rw [Int.toNat_natCast] at h
  obtain ⟨q', rfl, b1, b2, b3, b4, b5, b6⟩ := lisT_rd hb hn0 hn m p1' _ xs q h a4 h0 h1
  refine ⟨q', rfl, by omega, b2, by omega, b4, b5, ?_⟩
  unfold lisP
  rw [List.append_assoc, ← b6, b3, a5]
theorem lisT_er {l : List Int} {n er e q : Int} (he : er ≠ 0) (hb : Bytes l) (hn0 : 0 ≤ n) (hn : n ≤ 1000000) : ∀ {d : Nat} {p : Nat} {least : Int}, lisT l n er d p least = .error (e, q) → p ≤ l.length → 0 ≤ least → least ≤ 1000000 → e ≠ 0 ∧ 0 ≤ q ∧ q ≤ l.length
  | 0, p, least, h, _, _, _ => by cases h
  | d + 1, p, least, h, hp, h0, h1 => by
    have ew : wrap64 (n - 1) = n - 1 := by unfold wrap64; omega
    simp only [lisT, ew] at h
    rcases hx : numT l p least (n - 1) er with z | ⟨x, p1⟩
    · rw [hx] at h
      obtain rfl := Except.error.inj h
      exact num_er hx (by omega) (by omega) he
    rw [hx] at h
    simp only at h
    obtain ⟨m, p1', rfl, rfl, a1, a2, a3, a4, a5⟩ := num_rd hb hx hp h0 h1 (by omega)
    rw [show wrap64 ((m : Int) + 1) = (m : Int) + 1 by unfold wrap64; omega] at h
    rcases hy : lisT l n er d p1' ((m : Int) + 1) with z | ⟨ys, p2⟩
    · rw [hy] at h
      obtain rfl := Except.error.inj h
      exact lisT_er he hb hn0 hn hy a4 (by omega) (by omega)
    · rw [hy] at h; cases h
theorem listT_er {l : List Int} {p : Nat} {most least n er e q : Int} (h : listT l p most least n er = .error (e, q)) (he : er ≠ 0) (hb : Bytes l) (hp : p ≤ l.length) (hm : most ≤ 1000000) (hn0 : 0 ≤ n) (hn : n ≤ 1000000) (h0 : 0 ≤ least) (h1 : least ≤ 1000000) : e ≠ 0 ∧ 0 ≤ q ∧ q ≤ l.length := by
  unfold listT at h
  rcases hx : numT l p 0 most 3 with z | ⟨c, p1⟩
  · rw [hx] at h
    obtain rfl := Except.error.inj h
    exact num_er hx (by omega) (by omega) (by decide)
  rw [hx] at h
  simp only at h
  obtain ⟨m, p1', rfl, rfl, a1, a2, a3, a4, a5⟩ := num_rd hb hx hp (by omega) (by omega) hm
  rw [Int.toNat_natCast] at h
  exact lisT_er he hb hn0 hn h a4 h0 h1
/-! the foes, built from the lists above -/
theorem nxL_set {F : List (List Int)} {i j : Nat} (hi : i < F.length) (r : List Int) : nxL (F.set i r) (j : Int) = if j = i then r else nxL F (j : Int) := by
  unfold nxL
  rw [Int.toNat_natCast, List.getD_eq_getElem?_getD, List.getD_eq_getElem?_getD, List.getElem?_set]
  by_cases h : i = j
  · subst h; simp [hi]
  · rw [if_neg h, if_neg (fun e => h e.symm)]
theorem addF_len (q f : Int) (F : List (List Int)) : (addF q f F).length = F.length := by simp [addF]
theorem addF_row {q f x : Nat} {F : List (List Int)} (hq : q < F.length) (hf : f < F.length) (hne : q ≠ f) : nxL (addF q f F) (x : Int) = nxL F (x : Int) ++ (if x = q then [(f : Int)] else if x = f then [(q : Int)] else []) := by
  unfold addF
  simp only [Int.toNat_natCast]
  have ef : rd_L1 (F.set q (rd_L1 F (q : Int) ++ [(f : Int)])) (f : Int) = nxL F (f : Int) := by rw [rdL, nxL_set hq, if_neg (fun e => hne e.symm)]
  rw [nxL_set (by rw [List.length_set]; exact hf), ef, nxL_set hq, rdL]
  by_cases h1 : x = f
  · subst h1
    rw [if_pos rfl, if_neg (fun e => hne e.symm), if_pos rfl]
  · rw [if_neg h1, if_neg h1]
    by_cases h2 : x = q
    · subst h2; rw [if_pos rfl, if_pos rfl]
    · rw [if_neg h2, if_neg h2, List.append_nil]
theorem addFs_len (q : Int) : ∀ (a : List Int) (F : List (List Int)), (addFs q a F).length = F.length
  | [], F => rfl
  | f :: a, F => by simp only [addFs]; rw [addFs_len q a, addF_len]
theorem addFs_row {q x : Nat} : ∀ {a : List Int} {F : List (List Int)}, q < F.length → (∀ f, f ∈ a → (q : Int) < f ∧ f < F.length) → a.Nodup → nxL (addFs q a F) (x : Int) = nxL F (x : Int) ++ (if x = q then a else if (x : Int) ∈ a then [(q : Int)] else [])
  | [], F, _, _, _ => by simp [addFs]
  | f :: a, F, hq, hf, hn => by
    have hff := hf f List.mem_cons_self
    obtain ⟨g, rfl⟩ := Int.eq_ofNat_of_zero_le (show 0 ≤ f by omega)
    have hn' := List.nodup_cons.1 hn
    simp only [addFs]
    rw [addFs_row (a := a) (by rw [addF_len]; exact hq) (fun y hy => by rw [addF_len]; exact hf y (List.mem_cons_of_mem _ hy)) hn'.2, addF_row hq (by omega) (by omega), List.append_assoc]
    congr 1
    by_cases h1 : x = q
    · simp [h1]
    · simp only [if_neg h1, List.mem_cons]
      by_cases h2 : x = g
      · subst h2
        simp [hn'.1]
      · have : ¬ (x : Int) = (g : Int) := by omega
        simp [h2, this]
def bld : Nat → List (List Int) → List (List Int) → List (List Int)
  | _, [], F => F
  | q, a :: bs, F => bld (q + 1) bs (addFs q a F)
/-- What row x gets of the lists from the q-th on. -/
def con : Nat → List (List Int) → Nat → List Int
  | _, [], _ => []
  | q, a :: bs, x => (if x = q then a else if (x : Int) ∈ a then [(q : Int)] else []) ++ con (q + 1) bs x
/-- The lists above: each one's numbers rise, above its own, below n. -/
def AbvOk (n : Nat) : Nat → List (List Int) → Prop
  | _, [] => True
  | q, a :: bs => ((∀ f, f ∈ a → (q : Int) < f ∧ f < n) ∧ a.Pairwise (· < ·)) ∧ AbvOk n (q + 1) bs
theorem bld_len : ∀ (bs : List (List Int)) (q : Nat) (F : List (List Int)), (bld q bs F).length = F.length
  | [], q, F => rfl
  | a :: bs, q, F => by simp only [bld]; rw [bld_len, addFs_len]
theorem bld_row {n x : Nat} : ∀ {bs : List (List Int)} {q : Nat} {F : List (List Int)}, F.length = n → q + bs.length ≤ n → AbvOk n q bs → nxL (bld q bs F) (x : Int) = nxL F (x : Int) ++ con q bs x
  | [], q, F, _, _, _ => by simp [bld, con]
  | a :: bs, q, F, hF, hl, h => by
    obtain ⟨⟨h1, h2⟩, h3⟩ := h
    simp only [List.length_cons] at hl
    simp only [bld, con]
    rw [bld_row (n := n) (by rw [addFs_len]; exact hF) (by omega) h3, addFs_row (by omega) (by rw [hF]; exact h1) (h2.imp (fun h e => by omega)), List.append_assoc]
theorem con_nil {n x : Nat} : ∀ {bs : List (List Int)} {q : Nat}, x < q → AbvOk n q bs → con q bs x = []
  | [], _, _, _ => rfl
  | a :: bs, q, hx, h => by
    obtain ⟨⟨h1, h2⟩, h3⟩ := h
    simp only [con]
    rw [if_neg (by omega), if_neg (fun hm => by have := (h1 _ hm).1; omega), con_nil (by omega) h3]
    rfl
theorem con_lb {n x : Nat} : ∀ {bs : List (List Int)} {q : Nat}, q ≤ x → AbvOk n q bs → ∀ z, z ∈ con q bs x → (q : Int) ≤ z
  | [], _, _, _, z, hz => by simp [con] at hz
  | a :: bs, q, hx, h, z, hz => by
    obtain ⟨⟨h1, h2⟩, h3⟩ := h
    simp only [con] at hz
    by_cases e : x = q
    · rw [if_pos e, con_nil (by omega) h3, List.append_nil] at hz
      have := (h1 z hz).1; omega
    · rw [if_neg e] at hz
      rcases List.mem_append.1 hz with hz | hz
      · split at hz
        · rw [List.mem_singleton.1 hz]; omega
        · cases hz
      · have := con_lb (by omega) h3 z hz; omega
theorem con_pw {n x : Nat} : ∀ {bs : List (List Int)} {q : Nat}, q ≤ x → AbvOk n q bs → (con q bs x).Pairwise (· < ·)
  | [], _, _, _ => List.Pairwise.nil
  | a :: bs, q, hx, h => by
    obtain ⟨⟨h1, h2⟩, h3⟩ := h
    simp only [con]
    by_cases e : x = q
    · rw [if_pos e, con_nil (by omega) h3, List.append_nil]; exact h2
    · rw [if_neg e]
      have hr := con_pw (x := x) (q := q + 1) (by omega) h3
      by_cases hm : (x : Int) ∈ a
      · rw [if_pos hm]
        exact List.pairwise_cons.2 ⟨fun z hz => by have := con_lb (by omega) h3 z hz; omega, hr⟩
      · rw [if_neg hm]; exact hr
theorem con_abv {n x : Nat} : ∀ {bs : List (List Int)} {q : Nat}, q ≤ x → AbvOk n q bs → abv x (con q bs x) = bs.getD (x - q) []
  | [], q, _, _ => by simp [con, abv]
  | a :: bs, q, hx, h => by
    obtain ⟨⟨h1, h2⟩, h3⟩ := h
    simp only [con]
    by_cases e : x = q
    · subst e
      rw [if_pos rfl, con_nil (by omega) h3, List.append_nil, Nat.sub_self]
      unfold abv
      rw [List.filter_eq_self.2 (fun f hf => by simpa using (h1 f hf).1)]
      rfl
    · rw [if_neg e]
      have : abv (x : Int) (if (x : Int) ∈ a then [(q : Int)] else []) = [] := by
        split
        · unfold abv; rw [List.filter_eq_nil_iff]; intro y hy; rw [List.mem_singleton.1 hy]; simp; omega
        · rfl
      have hap : ∀ u v : List Int, abv (x : Int) (u ++ v) = abv (x : Int) u ++ abv (x : Int) v := fun u v => List.filter_append _ _
      rw [hap, this, List.nil_append, con_abv (by omega) h3, show x - q = (x - (q + 1)) + 1 by omega]
      rfl
theorem con_mem {n x : Nat} {z : Int} : ∀ {bs : List (List Int)} {q : Nat}, q ≤ x → AbvOk n q bs → (z ∈ con q bs x ↔ (∃ j : Nat, q ≤ j ∧ j < x ∧ j - q < bs.length ∧ z = (j : Int) ∧ (x : Int) ∈ bs.getD (j - q) []) ∨ (x - q < bs.length ∧ z ∈ bs.getD (x - q) []))
  | [], q, _, _ => by simp [con]
  | a :: bs, q, hx, h => by
    obtain ⟨⟨h1, h2⟩, h3⟩ := h
    simp only [con]
    by_cases e : x = q
    · subst e
      rw [if_pos rfl, con_nil (by omega) h3, List.append_nil, Nat.sub_self]
      constructor
      · intro hz; exact .inr ⟨by simp, hz⟩
      · rintro (⟨j, j1, j2, _⟩ | ⟨_, hz⟩)
        · omega
        · exact hz
    · rw [if_neg e, List.mem_append, con_mem (by omega) h3]
      have e1 : x - q = (x - (q + 1)) + 1 := by omega
      constructor
      · rintro (hz | ⟨j, j1, j2, j3, j4, j5⟩ | ⟨hl, hz⟩)
        · split at hz
          · rename_i hm
            exact .inl ⟨q, Nat.le_refl _, by omega, by simp, List.mem_singleton.1 hz, by rw [Nat.sub_self]; exact hm⟩
          · cases hz
        · exact .inl ⟨j, by omega, j2, by simp only [List.length_cons]; omega, j4, by rw [show j - q = (j - (q + 1)) + 1 by omega]; exact j5⟩
        · exact .inr ⟨by rw [e1]; simpa using hl, by rw [e1]; exact hz⟩
      · rintro (⟨j, j1, j2, j3, j4, j5⟩ | ⟨hl, hz⟩)
        · by_cases ej : j = q
          · subst ej
            rw [Nat.sub_self] at j5
            have hm : (x : Int) ∈ a := j5
            exact .inl (by rw [if_pos hm, j4]; simp)
          · rw [show j - q = (j - (q + 1)) + 1 by omega] at j3 j5
            exact .inr (.inl ⟨j, by omega, j2, by simpa using j3, j4, j5⟩)
        · rw [e1] at hl hz
          exact .inr (.inr ⟨by simpa using hl, hz⟩)
/-- Two rising lists of the same numbers are one. -/
theorem rise_ext : ∀ {a b : List Int}, a.Pairwise (· < ·) → b.Pairwise (· < ·) → (∀ z, z ∈ a ↔ z ∈ b) → a = b
  | [], [], _, _, _ => rfl
  | [], y :: b, _, _, h => absurd ((h y).2 List.mem_cons_self) (by simp)
  | x :: a, [], _, _, h => absurd ((h x).1 List.mem_cons_self) (by simp)
  | x :: a, y :: b, ha, hb, h => by
    have ha' := List.pairwise_cons.1 ha
    have hb' := List.pairwise_cons.1 hb
    have e : x = y := by
      rcases List.mem_cons.1 ((h x).1 List.mem_cons_self) with e | hx
      · exact e
      · rcases List.mem_cons.1 ((h y).2 List.mem_cons_self) with e | hy
        · exact e.symm
        · have := hb'.1 x hx; have := ha'.1 y hy; omega
    subst e
    congr 1
    refine rise_ext ha'.2 hb'.2 (fun z => ⟨fun hz => ?_, fun hz => ?_⟩)
    · rcases List.mem_cons.1 ((h z).1 (List.mem_cons_of_mem _ hz)) with e | hz'
      · have := ha'.1 z hz; omega
      · exact hz'
    · rcases List.mem_cons.1 ((h z).2 (List.mem_cons_of_mem _ hz)) with e | hz'
      · have := hb'.1 z hz; omega
      · exact hz'
theorem nxL_nil (m : Nat) (x : Int) : nxL (List.replicate m []) x = [] := by
  unfold nxL
  rw [List.getD_eq_getElem?_getD, List.getElem?_replicate]
  split <;> rfl
theorem nxL_get {F : List (List Int)} {x : Nat} (h : x < F.length) : nxL F (x : Int) = F[x] := by
  simp [nxL, List.getD_eq_getElem?_getD, List.getElem?_eq_getElem h]
def absOf : Nat → List (List Int) → List (List Int)
  | _, [] => []
  | q, l :: ls => abv q l :: absOf (q + 1) ls
theorem absOf_len : ∀ (ls : List (List Int)) (q : Nat), (absOf q ls).length = ls.length
  | [], _ => rfl
  | l :: ls, q => by simp [absOf, absOf_len ls]
theorem absOf_get : ∀ (ls : List (List Int)) (q j : Nat), j < ls.length → (absOf q ls).getD j [] = abv ((q + j : Nat) : Int) (ls.getD j [])
  | [], _, _, h => by simp at h
  | l :: ls, q, 0, _ => by simp [absOf]
  | l :: ls, q, j + 1, h => by
    have := absOf_get ls (q + 1) j (by simpa using h)
    rw [show q + (j + 1) = q + 1 + j by omega]
    exact this
theorem foesP_abs : ∀ (ls : List (List Int)) (q : Nat), foesP q ls = (absOf q ls).flatMap lisP
  | [], _ => rfl
  | l :: ls, q => by simp [foesP, absOf, foesP_abs ls]
theorem absOf_ok {n : Nat} : ∀ (ls : List (List Int)) (q : Nat), (∀ r, r ∈ ls → (∀ x, x ∈ r → 0 ≤ x ∧ x < n) ∧ r.Pairwise (· < ·)) → AbvOk n q (absOf q ls)
  | [], _, _ => trivial
  | l :: ls, q, h => ⟨⟨fun f hf => ⟨(abv_mem.1 hf).2, ((h l List.mem_cons_self).1 f (abv_mem.1 hf).1).2⟩, (h l List.mem_cons_self).2.filter _⟩, absOf_ok ls (q + 1) (fun r hr => h r (List.mem_cons_of_mem _ hr))⟩
/-- The lists above of a theory that may be build its foes. -/
theorem bld_back {a0 : Int} {fo be : List (List Int)} {rs : List S46} (h : Fine a0 fo rs be) : bld 0 (absOf 0 fo) (List.replicate fo.length []) = fo := by
  have hok : AbvOk fo.length 0 (absOf 0 fo) := absOf_ok fo 0 (fun r hr => by rw [h.len]; exact (h.row r hr).2)
  apply List.ext_getElem
  · rw [bld_len, List.length_replicate]
  · intro x h1 h2
    have hr := bld_row (x := x) (F := List.replicate fo.length []) (by rw [List.length_replicate]) (by rw [absOf_len]; omega) hok
    rw [nxL_get h1, nxL_nil, List.nil_append] at hr
    rw [hr]
    have hrow := h.row _ (List.getElem_mem h2)
    have e2 : nxL fo (x : Int) = fo[x] := nxL_get h2
    have eg : ∀ j : Nat, j < fo.length → (absOf 0 fo).getD j [] = abv (j : Int) (nxL fo (j : Int)) := fun j hj => by
      rw [absOf_get fo 0 j hj, Nat.zero_add]; simp [nxL]
    refine rise_ext (con_pw (Nat.zero_le _) hok) hrow.2.2 (fun z => ?_)
    rw [con_mem (Nat.zero_le _) hok, absOf_len]
    simp only [Nat.sub_zero]
    constructor
    · rintro (⟨j, _, j2, j3, rfl, j5⟩ | ⟨_, hz⟩)
      · rw [eg j j3] at j5
        have := h.sym j j3 _ (abv_mem.1 j5).1
        rwa [e2] at this
      · rw [eg x h2, e2] at hz
        exact (abv_mem.1 hz).1
    · intro hz
      have hb := hrow.2.1 z hz
      obtain ⟨j, rfl⟩ := Int.eq_ofNat_of_zero_le hb.1
      have hjl : j < fo.length := by have := h.len; omega
      have hne : j ≠ x := fun e => by subst e; exact h.self j h2 (by rw [e2]; exact hz)
      by_cases hjx : j < x
      · have hs := h.sym x h2 (j : Int) (by rw [e2]; exact hz)
        exact .inl ⟨j, by omega, hjx, hjl, rfl, by rw [eg j hjl]; exact abv_mem.2 ⟨hs, by omega⟩⟩
      · exact .inr ⟨h2, by rw [eg x h2, e2]; exact abv_mem.2 ⟨hz, by omega⟩⟩
/-- What was built of lists has them above. -/
theorem bld_fwd {n : Nat} {bs : List (List Int)} (hl : bs.length = n) (h : AbvOk n 0 bs) : absOf 0 (bld 0 bs (List.replicate n [])) = bs := by
  apply List.ext_getElem
  · rw [absOf_len, bld_len, List.length_replicate, hl]
  · intro x h1 h2
    have hx : x < (bld 0 bs (List.replicate n [])).length := by rw [absOf_len] at h1; exact h1
    have hg := absOf_get (bld 0 bs (List.replicate n [])) 0 x hx
    rw [List.getD_eq_getElem?_getD, List.getElem?_eq_getElem h1, Nat.zero_add] at hg
    simp only [Option.getD_some] at hg
    have hr := bld_row (x := x) (F := List.replicate n []) (by rw [List.length_replicate]) (by omega) h
    rw [nxL_nil, List.nil_append] at hr
    have hn : (bld 0 bs (List.replicate n [])).getD x [] = con 0 bs x := by rw [← hr]; simp [nxL]
    rw [hg, hn, con_abv (Nat.zero_le _) h, Nat.sub_zero, List.getD_eq_getElem?_getD, List.getElem?_eq_getElem h2]
    rfl
/-! the foes' bytes -/
theorem foesT_bk {l : List Int} {n : Nat} (hn : n ≤ 4096) : ∀ (bs : List (List Int)) (q p : Nat) (F : List (List Int)) (rest : List Int), p ≤ l.length → q + bs.length ≤ n → AbvOk n q bs → (∀ a, a ∈ bs → a.length ≤ 64) → l.drop p = bs.flatMap lisP ++ rest →
    foesT l n bs.length q p F = .ok (bld q bs F, ((p + (bs.flatMap lisP).length : Nat) : Int)) ∧ p + (bs.flatMap lisP).length ≤ l.length ∧ l.drop (p + (bs.flatMap lisP).length) = rest
  | [], q, p, F, rest, hp, _, _, _, h => ⟨rfl, hp, h⟩
  | a :: bs, q, p, F, rest, hp, hq, hok, hl, h => by
    obtain ⟨⟨h1, h2⟩, h3⟩ := hok
    simp only [List.length_cons] at hq
    rw [List.flatMap_cons, List.append_assoc] at h
    obtain ⟨a1, a2, a3⟩ := listT_bk (most := 64) (least := (q : Int) + 1) (n := n) (er := 121) (by omega) (by omega) (by omega) hp (by omega) (fun x hx => by have := h1 x hx; omega) h2 (by have := hl a List.mem_cons_self; omega) h
    obtain ⟨b1, b2, b3⟩ := foesT_bk hn bs (q + 1) _ (addFs q a F) rest a2 (by omega) h3 (fun a ha => hl a (List.mem_cons_of_mem _ ha)) a3
    have el : p + (List.flatMap lisP (a :: bs)).length = p + (lisP a).length + (bs.flatMap lisP).length := by rw [List.flatMap_cons, List.length_append]; omega
    rw [el]
    refine ⟨?_, b2, b3⟩
    show foesT l n (bs.length + 1) q p F = _
    simp only [foesT, a1, bld]
    rw [show (q : Int) + 1 = ((q + 1 : Nat) : Int) by omega]
    exact b1
theorem foesT_rd {l : List Int} (hb : Bytes l) {n : Nat} (hn : n ≤ 4096) : ∀ (d q p : Nat) (F F' : List (List Int)) (p' : Int), foesT l n d q p F = .ok (F', p') → p ≤ l.length → q + d ≤ n →
    ∃ (bs : List (List Int)) (q' : Nat), p' = q' ∧ p ≤ q' ∧ q' ≤ l.length ∧ bs.length = d ∧ AbvOk n q bs ∧ (∀ a, a ∈ bs → a.length ≤ 64) ∧ F' = bld q bs F ∧ l.drop p = bs.flatMap lisP ++ l.drop q'
  | 0, q, p, F, F', p', h, hp, _ => by
    simp only [foesT, Except.ok.injEq, Prod.mk.injEq] at h
    obtain ⟨rfl, rfl⟩ := h
    exact ⟨[], p, rfl, Nat.le_refl _, hp, rfl, trivial, by simp, rfl, rfl⟩
  | d + 1, q, p, F, F', p', h, hp, hq => by
    simp only [foesT] at h
    rcases hx : listT l p 64 ((q : Int) + 1) n 121 with z | ⟨a, p1⟩
    · rw [hx] at h; cases h
    rw [hx] at h
    simp only at h
    obtain ⟨p1', rfl, a1, a2, a3, a4, a5, a6⟩ := listT_rd hb hx hp (by omega) (by omega) (by omega) (by omega) (by omega)
    rw [show (q : Int) + 1 = ((q + 1 : Nat) : Int) by omega] at h
    obtain ⟨bs, q', rfl, b1, b2, b3, b4, b5, b6, b7⟩ := foesT_rd hb hn d (q + 1) p1' _ F' p' h a2 (by omega)
    exact ⟨a :: bs, q', rfl, by omega, b2, by simp [b3], ⟨⟨fun f hf => by have := a4 f hf; omega, a5⟩, b4⟩, fun x hx => by
      rcases List.mem_cons.1 hx with rfl | hx
      · omega
      · exact b5 x hx, b6, by rw [List.flatMap_cons, List.append_assoc, ← b7, a6]⟩
theorem foesT_er {l : List Int} (hb : Bytes l) {n : Nat} (hn : n ≤ 4096) {e p' : Int} : ∀ (d q p : Nat) (F : List (List Int)), foesT l n d q p F = .error (e, p') → p ≤ l.length → q + d ≤ n → e ≠ 0 ∧ 0 ≤ p' ∧ p' ≤ l.length
  | 0, q, p, F, h, _, _ => by cases h
  | d + 1, q, p, F, h, hp, hq => by
    simp only [foesT] at h
    rcases hx : listT l p 64 ((q : Int) + 1) n 121 with z | ⟨a, p1⟩
    · rw [hx] at h
      obtain rfl := Except.error.inj h
      exact listT_er hx (by decide) hb hp (by omega) (by omega) (by omega) (by omega) (by omega)
    rw [hx] at h
    simp only at h
    obtain ⟨p1', rfl, a1, a2, a3, a4, a5, a6⟩ := listT_rd hb hx hp (by omega) (by omega) (by omega) (by omega) (by omega)
    rw [show (q : Int) + 1 = ((q + 1 : Nat) : Int) by omega] at h
    exact foesT_er hb hn d (q + 1) p1' _ h a2 (by omega)
end Go.Proofs.Yteblkanjgnbkkaa.P
