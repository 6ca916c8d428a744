/- A theory's bytes, plain: the whole of them, there and back. -/
import Derived.Test.YteblkanjgnbkkaaThyD
namespace Go.Proofs.Yteblkanjgnbkkaa.P
open Go.RowKit Go.Proofs.YteblkanjgnbkkaaW.PrintWords Go.Proofs.Yteblkanjgnbkkaa.K
set_option linter.unusedVariables false
set_option linter.unusedSimpArgs false

theorem thyHd_at : thyHd 0 = 116 ∧ thyHd 1 = 104 ∧ thyHd 2 = 121 ∧ thyHd 3 = 1 := ⟨by kernel_rfl, by kernel_rfl, by kernel_rfl, by kernel_rfl⟩
theorem headT_one {l : List Int} {d i : Nat} (h : i < l.length) (he : rd l i = thyHd i) : headT l (d + 1) i = headT l d (i + 1) := by
  simp only [headT]
  rw [if_neg (by omega), if_neg (by simpa using he)]
theorem headT_bk {l rest : List Int} (h : l = [116, 104, 121, 1] ++ rest) : headT l 4 0 = .ok () := by
  obtain ⟨h0, h1, h2, h3⟩ := thyHd_at
  have hl : l.length = rest.length + 4 := by rw [h]; simp
  rw [headT_one (i := 0) (by omega) (by rw [h0, h]; rfl), headT_one (i := 1) (by omega) (by rw [h1, h]; rfl), headT_one (i := 2) (by omega) (by rw [h2, h]; rfl), headT_one (i := 3) (by omega) (by rw [h3, h]; rfl)]
  rfl
theorem headT_step {l : List Int} {d i : Nat} (h : headT l (d + 1) i = .ok ()) : i < l.length ∧ rd l i = thyHd i ∧ headT l d (i + 1) = .ok () := by
  simp only [headT] at h
  by_cases h1 : (l.length : Int) ≤ i
  · rw [if_pos h1] at h; cases h
  rw [if_neg h1] at h
  by_cases h2 : rd l i ≠ thyHd i
  · rw [if_pos h2] at h; cases h
  rw [if_neg h2] at h
  exact ⟨by omega, Classical.not_not.1 h2, h⟩
theorem headT_rd {l : List Int} (h : headT l 4 0 = .ok ()) : 4 ≤ l.length ∧ l = [116, 104, 121, 1] ++ l.drop 4 := by
  obtain ⟨h0, h1, h2, h3⟩ := thyHd_at
  obtain ⟨a1, a2, h⟩ := headT_step h
  obtain ⟨b1, b2, h⟩ := headT_step h
  obtain ⟨c1, c2, h⟩ := headT_step h
  obtain ⟨d1, d2, h⟩ := headT_step h
  rw [rd_lt a1, h0] at a2
  rw [rd_lt b1, h1] at b2
  rw [rd_lt c1, h2] at c2
  rw [rd_lt d1, h3] at d2
  refine ⟨by omega, ?_⟩
  have e := List.drop_eq_getElem_cons a1
  rw [List.drop_zero, a2, List.drop_eq_getElem_cons b1, b2, List.drop_eq_getElem_cons c1, c2, List.drop_eq_getElem_cons d1, d2] at e
  exact e
theorem headT_er {l : List Int} {e q : Int} : ∀ {d i : Nat}, headT l d i = .error (e, q) → e ≠ 0 ∧ 0 ≤ q ∧ q ≤ l.length
  | 0, _, h => by cases h
  | d + 1, i, h => by
    simp only [headT] at h
    by_cases h1 : (l.length : Int) ≤ i
    · rw [if_pos h1] at h
      simp only [Except.error.injEq, Prod.mk.injEq] at h
      obtain ⟨rfl, rfl⟩ := h
      omega
    rw [if_neg h1] at h
    by_cases h2 : rd l i ≠ thyHd i
    · rw [if_pos h2] at h
      simp only [Except.error.injEq, Prod.mk.injEq] at h
      obtain ⟨rfl, rfl⟩ := h
      omega
    · rw [if_neg h2] at h
      exact headT_er h
/-! rules -/
def RuleOk (a0 : Int) (r : S46) : Prop := (1 ≤ r.f0 ∧ r.f0 ≤ 3) ∧ (0 ≤ r.f1 ∧ r.f1 < a0) ∧ r.f2.length ≤ 16 ∧ (∀ x, x ∈ r.f2 → 0 ≤ x ∧ x < a0) ∧ r.f2.Pairwise (· < ·)
theorem ruleT_bk {l : List Int} {a0 : Int} (ha : 0 ≤ a0 ∧ a0 ≤ 4096) {r : S46} {p : Nat} {rest : List Int} (hr : RuleOk a0 r) (hp : p ≤ l.length) (h : l.drop p = uP r.f0 ++ (uP r.f1 ++ (lisP r.f2 ++ rest))) :
    ∃ q : Nat, ruleT l a0 p = .ok (r, (q : Int)) ∧ q ≤ l.length ∧ l.drop q = rest ∧ q = p + (uP r.f0).length + (uP r.f1).length + (lisP r.f2).length := by
  obtain ⟨r1, r2, r3, r4, r5⟩ := hr
  obtain ⟨a1, a2, a3⟩ := num_bk (least := 1) (most := 3) (e := 122) hp h (by omega) (by omega) (by omega) (by omega)
  obtain ⟨b1, b2, b3⟩ := num_bk (least := 0) (most := a0 - 1) (e := 122) a2 a3 (by omega) (by omega) (by omega) (by omega)
  obtain ⟨c1, c2, c3⟩ := listT_bk (most := 16) (least := 0) (n := a0) (er := 122) ha.1 (by omega) (by omega) b2 (by omega) r4 r5 (by omega) b3
  refine ⟨_, ?_, c2, c3, rfl⟩
  unfold ruleT
  simp only [a1, b1, c1]
  have e1 : ((r.f0.toNat : Nat) : Int) = r.f0 := by omega
  have e2 : ((r.f1.toNat : Nat) : Int) = r.f1 := by omega
  rw [e1, e2]
theorem ruleT_rd {l : List Int} (hb : Bytes l) {a0 : Int} (ha : 0 ≤ a0 ∧ a0 ≤ 4096) {r : S46} {p : Nat} {q : Int} (hp : p ≤ l.length) (h : ruleT l a0 p = .ok (r, q)) :
    ∃ q' : Nat, q = q' ∧ q' ≤ l.length ∧ RuleOk a0 r ∧ l.drop p = uP r.f0 ++ (uP r.f1 ++ (lisP r.f2 ++ l.drop q')) := by
  unfold ruleT at h
  rcases h1 : numT l p 1 3 122 with z | ⟨k, p1⟩
  · rw [h1] at h; cases h
  rw [h1] at h
  simp only at h
  obtain ⟨k', p1', rfl, rfl, a1, a2, a3, a4, a5⟩ := num_rd hb h1 hp (by omega) (by omega) (by omega)
  rcases h2 : numT l p1' 0 (a0 - 1) 122 with z | ⟨m, p2⟩
  · rw [h2] at h; cases h
  rw [h2] at h
  simp only at h
  obtain ⟨m', p2', rfl, rfl, b1, b2, b3, b4, b5⟩ := num_rd hb h2 a4 (by omega) (by omega) (by omega)
  rcases h3 : listT l p2' 16 0 a0 122 with z | ⟨bs, p3⟩
  · rw [h3] at h; cases h
  rw [h3] at h
  simp only [Except.ok.injEq, Prod.mk.injEq] at h
  obtain ⟨rfl, rfl⟩ := h
  obtain ⟨p3', rfl, c1, c2, c3, c4, c5, c6⟩ := listT_rd hb h3 b4 (by omega) ha.1 (by omega) (by omega) (by omega)
  refine ⟨p3', rfl, c2, ⟨⟨a1, a2⟩, ⟨b1, by show (m' : Int) < a0; omega⟩, by show bs.length ≤ 16; omega, c4, c5⟩, ?_⟩
  simp only [uP, Int.toNat_natCast]
  rw [← c6, ← b5, a5]
theorem ruleT_er {l : List Int} (hb : Bytes l) {a0 : Int} (ha : 0 ≤ a0 ∧ a0 ≤ 4096) {p : Nat} {e q : Int} (hp : p ≤ l.length) (h : ruleT l a0 p = .error (e, q)) : e ≠ 0 ∧ 0 ≤ q ∧ q ≤ l.length := by
  unfold ruleT at h
  rcases h1 : numT l p 1 3 122 with z | ⟨k, p1⟩
  · rw [h1] at h
    obtain rfl := Except.error.inj h
    exact num_er h1 (by omega) (by omega) (by decide)
  rw [h1] at h
  simp only at h
  obtain ⟨k', p1', rfl, rfl, a1, a2, a3, a4, a5⟩ := num_rd hb h1 hp (by omega) (by omega) (by omega)
  rcases h2 : numT l p1' 0 (a0 - 1) 122 with z | ⟨m, p2⟩
  · rw [h2] at h
    obtain rfl := Except.error.inj h
    exact num_er h2 (by omega) (by omega) (by decide)
  rw [h2] at h
  simp only at h
  obtain ⟨m', p2', rfl, rfl, b1, b2, b3, b4, b5⟩ := num_rd hb h2 a4 (by omega) (by omega) (by omega)
  rcases h3 : listT l p2' 16 0 a0 122 with z | ⟨bs, p3⟩
  · rw [h3] at h
    obtain rfl := Except.error.inj h
    exact listT_er h3 (by decide) hb b4 (by omega) ha.1 (by omega) (by omega) (by omega)
  · rw [h3] at h; cases h
theorem rulesT_bk {l : List Int} {a0 : Int} (ha : 0 ≤ a0 ∧ a0 ≤ 4096) : ∀ (rs : List S46) (p : Nat) (rest : List Int), p ≤ l.length → (∀ r, r ∈ rs → RuleOk a0 r) → l.drop p = rulP rs ++ rest →
    ∃ q : Nat, rulesT l a0 rs.length p = .ok (rs, (q : Int)) ∧ q ≤ l.length ∧ l.drop q = rest
  | [], p, rest, hp, _, h => ⟨p, rfl, hp, h⟩
  | r :: rs, p, rest, hp, hr, h => by
    simp only [rulP, List.append_assoc] at h
    obtain ⟨q1, a1, a2, a3, _⟩ := ruleT_bk ha (hr r List.mem_cons_self) hp h
    obtain ⟨q, b1, b2, b3⟩ := rulesT_bk ha rs q1 rest a2 (fun r h => hr r (List.mem_cons_of_mem _ h)) a3
    refine ⟨q, ?_, b2, b3⟩
    show rulesT l a0 (rs.length + 1) p = _
    simp only [rulesT, a1, b1, preX]
    rfl
theorem rulesT_rd {l : List Int} (hb : Bytes l) {a0 : Int} (ha : 0 ≤ a0 ∧ a0 ≤ 4096) : ∀ (d p : Nat) (rs : List S46) (q : Int), rulesT l a0 d p = .ok (rs, q) → p ≤ l.length →
    ∃ q' : Nat, q = q' ∧ q' ≤ l.length ∧ rs.length = d ∧ (∀ r, r ∈ rs → RuleOk a0 r) ∧ l.drop p = rulP rs ++ l.drop q'
  | 0, p, rs, q, h, hp => by
    simp only [rulesT, Except.ok.injEq, Prod.mk.injEq] at h
    obtain ⟨rfl, rfl⟩ := h
    exact ⟨p, rfl, hp, rfl, by simp, rfl⟩
  | d + 1, p, rs, q, h, hp => by
    simp only [rulesT] at h
    rcases h1 : ruleT l a0 p with z | ⟨r, p1⟩
    · rw [h1] at h; cases h
    rw [h1] at h
    simp only at h
    obtain ⟨p1', rfl, a1, a2, a3⟩ := ruleT_rd hb ha hp h1
    rcases h2 : rulesT l a0 d p1' with z | ⟨rs', p2⟩
    · rw [h2] at h; cases h
    rw [h2] at h
    simp only [preX, Except.ok.injEq, Prod.mk.injEq] at h
    obtain ⟨rfl, rfl⟩ := h
    obtain ⟨q', rfl, b1, b2, b3, b4⟩ := rulesT_rd hb ha d p1' rs' p2 h2 a1
    refine ⟨q', rfl, b1, by simp [b2], fun x hx => ?_, ?_⟩
    · rcases List.mem_cons.1 hx with rfl | hx
      · exact a2
      · exact b3 x hx
    · rw [a3, b4]; simp [rulP]
theorem rulesT_er {l : List Int} (hb : Bytes l) {a0 : Int} (ha : 0 ≤ a0 ∧ a0 ≤ 4096) {e q : Int} : ∀ (d p : Nat), rulesT l a0 d p = .error (e, q) → p ≤ l.length → e ≠ 0 ∧ 0 ≤ q ∧ q ≤ l.length
  | 0, p, h, hp => by cases h
  | d + 1, p, h, hp => by
    simp only [rulesT] at h
    rcases h1 : ruleT l a0 p with z | ⟨r, p1⟩
    · rw [h1] at h
      obtain rfl := Except.error.inj h
      exact ruleT_er hb ha hp h1
    rw [h1] at h
    simp only at h
    obtain ⟨p1', rfl, a1, a2, a3⟩ := ruleT_rd hb ha hp h1
    rcases h2 : rulesT l a0 d p1' with z | ⟨rs', p2⟩
    · rw [h2] at h
      obtain rfl := Except.error.inj h
      exact rulesT_er hb ha d p1' h2 a1
    · rw [h2] at h; cases h
/-! the superiority -/
theorem beatsT_bk {l : List Int} {n : Nat} (hn : n ≤ 4096) : ∀ (bs : List (List Int)) (p : Nat) (rest : List Int), p ≤ l.length → (∀ b, b ∈ bs → (∀ x, x ∈ b → 0 ≤ x ∧ x < n) ∧ b.Pairwise (· < ·)) → l.drop p = beaP bs ++ rest →
    ∃ q : Nat, beatsT l n bs.length p = .ok (bs, (q : Int)) ∧ q ≤ l.length ∧ l.drop q = rest
  | [], p, rest, hp, _, h => ⟨p, rfl, hp, h⟩
  | b :: bs, p, rest, hp, hr, h => by
    simp only [beaP, List.append_assoc] at h
    have h0 := hr b List.mem_cons_self
    have hl := pair_len h0
    obtain ⟨a1, a2, a3⟩ := listT_bk (most := 4096) (least := 0) (n := n) (er := 123) (by omega) (by omega) (by omega) hp (by omega) h0.1 h0.2 (by omega) h
    obtain ⟨q, b1, b2, b3⟩ := beatsT_bk hn bs _ rest a2 (fun r h => hr r (List.mem_cons_of_mem _ h)) a3
    refine ⟨q, ?_, b2, b3⟩
    show beatsT l n (bs.length + 1) p = _
    simp only [beatsT, a1, b1, preX]
    rfl
theorem beatsT_rd {l : List Int} (hb : Bytes l) {n : Nat} (hn : n ≤ 4096) : ∀ (d p : Nat) (bs : List (List Int)) (q : Int), beatsT l n d p = .ok (bs, q) → p ≤ l.length →
    ∃ q' : Nat, q = q' ∧ q' ≤ l.length ∧ bs.length = d ∧ (∀ b, b ∈ bs → (∀ x, x ∈ b → 0 ≤ x ∧ x < n) ∧ b.Pairwise (· < ·)) ∧ l.drop p = beaP bs ++ l.drop q'
  | 0, p, bs, q, h, hp => by
    simp only [beatsT, Except.ok.injEq, Prod.mk.injEq] at h
    obtain ⟨rfl, rfl⟩ := h
    exact ⟨p, rfl, hp, rfl, by simp, rfl⟩
  | d + 1, p, bs, q, h, hp => by
    simp only [beatsT] at h
    rcases h1 : listT l p 4096 0 n 123 with z | ⟨b, p1⟩
    · rw [h1] at h; cases h
    rw [h1] at h
    simp only at h
    obtain ⟨p1', rfl, a1, a2, a3, a4, a5, a6⟩ := listT_rd hb h1 hp (by omega) (by omega) (by omega) (by omega) (by omega)
    rcases h2 : beatsT l n d p1' with z | ⟨bs', p2⟩
    · rw [h2] at h; cases h
    rw [h2] at h
    simp only [preX, Except.ok.injEq, Prod.mk.injEq] at h
    obtain ⟨rfl, rfl⟩ := h
    obtain ⟨q', rfl, b1, b2, b3, b4⟩ := beatsT_rd hb hn d p1' bs' p2 h2 a2
    refine ⟨q', rfl, b1, by simp [b2], fun x hx => ?_, ?_⟩
    · rcases List.mem_cons.1 hx with rfl | hx
      · exact ⟨a4, a5⟩
      · exact b3 x hx
    · rw [a6, b4]; simp [beaP]
theorem beatsT_er {l : List Int} (hb : Bytes l) {n : Nat} (hn : n ≤ 4096) {e q : Int} : ∀ (d p : Nat), beatsT l n d p = .error (e, q) → p ≤ l.length → e ≠ 0 ∧ 0 ≤ q ∧ q ≤ l.length
  | 0, p, h, hp => by cases h
  | d + 1, p, h, hp => by
    simp only [beatsT] at h
    rcases h1 : listT l p 4096 0 n 123 with z | ⟨b, p1⟩
    · rw [h1] at h
      obtain rfl := Except.error.inj h
      exact listT_er h1 (by decide) hb hp (by omega) (by omega) (by omega) (by omega) (by omega)
    rw [h1] at h
    simp only at h
    obtain ⟨p1', rfl, a1, a2, a3, a4, a5, a6⟩ := listT_rd hb h1 hp (by omega) (by omega) (by omega) (by omega) (by omega)
    rcases h2 : beatsT l n d p1' with z | ⟨bs', p2⟩
    · rw [h2] at h
      obtain rfl := Except.error.inj h
      exact beatsT_er hb hn d p1' h2 a2
    · rw [h2] at h; cases h
/-! the whole -/
theorem thyT_bk {a0 : Int} {fo be : List (List Int)} {rs : List S46} (h : Fine a0 fo rs be) : thyT (encP a0 fo rs be) = .ok (a0, fo, rs, be) := by
  obtain ⟨l, hl⟩ : ∃ l, l = encP a0 fo rs be := ⟨_, rfl⟩
  rw [← hl]
  unfold encP at hl
  have e4 : l.drop 4 = uP a0 ++ (foesP 0 fo ++ (vlq rs.length ++ (rulP rs ++ beaP be))) := by rw [hl]; rfl
  have h4 : 4 ≤ l.length := by rw [hl]; simp
  have han := h.an
  have hln := h.len
  have hm : a0.toNat = fo.length := by omega
  obtain ⟨a1, a2, a3⟩ := num_bk (least := 0) (most := 4096) (e := 3) h4 e4 (by omega) (by omega) (by omega) (by omega)
  rw [foesP_abs] at a3
  have hok : AbvOk fo.length 0 (absOf 0 fo) := absOf_ok fo 0 (fun r hr => by rw [hln]; exact (h.row r hr).2)
  obtain ⟨b1, b2, b3⟩ := foesT_bk (n := fo.length) (by omega) (absOf 0 fo) 0 _ (List.replicate fo.length []) _ a2 (by rw [absOf_len]; omega) hok (fun a ha => by
    obtain ⟨j, hj, e⟩ := List.getElem_of_mem ha
    have hj' : j < fo.length := by rw [absOf_len] at hj; exact hj
    have := absOf_get fo 0 j hj'
    rw [List.getD_eq_getElem?_getD, List.getElem?_eq_getElem hj, List.getD_eq_getElem?_getD, List.getElem?_eq_getElem hj'] at this
    simp only [Option.getD_some] at this
    rw [e] at this
    rw [this]
    have := abv_len ((0 + j : Nat) : Int) fo[j]
    have := (h.row _ (List.getElem_mem hj')).1
    omega) a3
  rw [absOf_len, bld_back h] at b1
  obtain ⟨c1, c2, c3⟩ := num_bk (least := 0) (most := 4096) (e := 3) b2 b3 (by omega) (by omega) (by have := h.r4; omega) (by omega)
  obtain ⟨q1, d1, d2, d3⟩ := rulesT_bk h.an rs _ (beaP be) c2 h.rule c3
  obtain ⟨q2, f1, f2, f3⟩ := beatsT_bk h.r4 be q1 [] d2 h.bea (by rw [d3, List.append_nil])
  have hq : q2 = l.length := by
    have := congrArg List.length f3
    rw [List.length_drop, List.length_nil] at this
    omega
  unfold thyT
  rw [headT_bk (rest := uP a0 ++ (foesP 0 fo ++ (vlq rs.length ++ (rulP rs ++ beaP be)))) hl]
  simp only
  rw [show (4 : Int) = ((4 : Nat) : Int) from rfl, a1]
  simp only
  rw [show ((a0.toNat : Nat) : Int).toNat = fo.length by rw [Int.toNat_natCast]; exact hm, show ((a0.toNat : Nat) : Int) = (fo.length : Int) by omega]
  rw [show (0 : Int) = ((0 : Nat) : Int) from rfl, b1]
  simp only [Int.natCast_zero]
  rw [c1]
  simp only [Int.toNat_natCast]
  rw [show (fo.length : Int) = a0 from hln, d1]
  rw [h.bl] at f1
  simp only [f1, tailT]
  rw [if_neg (by omega)]
theorem thyT_rd {l : List Int} (hb : Bytes l) {a0 : Int} {fo be : List (List Int)} {rs : List S46} (h : thyT l = .ok (a0, fo, rs, be)) :
    encP a0 fo rs be = l ∧ (∃ as_ : List (List Int), fo.length = as_.length ∧ AbvOk fo.length 0 as_ ∧ (∀ a, a ∈ as_ → a.length ≤ 64) ∧ fo = bld 0 as_ (List.replicate fo.length [])) ∧ (0 ≤ a0 ∧ a0 ≤ 4096) ∧ (fo.length : Int) = a0 ∧ rs.length ≤ 4096 ∧ be.length = rs.length ∧ (∀ r, r ∈ rs → RuleOk a0 r) ∧ (∀ b, b ∈ be → (∀ x, x ∈ b → 0 ≤ x ∧ x < rs.length) ∧ b.Pairwise (· < ·)) := by
  unfold thyT at h
  rcases h1 : headT l 4 0 with z | u
  · rw [h1] at h; cases h
  rw [h1] at h
  simp only at h
  obtain ⟨h4, e0⟩ := headT_rd h1
  rcases h2 : numT l 4 0 4096 3 with z | ⟨L, p1⟩
  · rw [h2] at h; cases h
  rw [h2] at h
  simp only at h
  obtain ⟨m, p1', rfl, rfl, a1, a2, a3, a4, a5⟩ := num_rd hb (p := 4) h2 h4 (by omega) (by omega) (by omega)
  rw [Int.toNat_natCast] at h
  rcases h3 : foesT l m m 0 p1' (List.replicate m []) with z | ⟨F, p2⟩
  · rw [h3] at h; cases h
  rw [h3] at h
  simp only at h
  obtain ⟨as_, p2', rfl, b1, b2, b3, b4, b5, rfl, b7⟩ := foesT_rd hb (n := m) (by omega) m 0 p1' _ _ _ h3 a4 (by omega)
  rcases h5 : numT l p2' 0 4096 3 with z | ⟨n, p3⟩
  · rw [h5] at h; cases h
  rw [h5] at h
  simp only at h
  obtain ⟨n', p3', rfl, rfl, c1, c2, c3, c4, c5⟩ := num_rd hb h5 b2 (by omega) (by omega) (by omega)
  rw [Int.toNat_natCast] at h
  rcases h6 : rulesT l m n' p3' with z | ⟨R, p4⟩
  · rw [h6] at h; cases h
  rw [h6] at h
  simp only at h
  obtain ⟨p4', rfl, d1, d2, d3, d4⟩ := rulesT_rd hb ⟨by omega, by omega⟩ n' p3' R p4 h6 c4
  rcases h7 : beatsT l n' n' p4' with z | ⟨B, p5⟩
  · rw [h7] at h; cases h
  rw [h7] at h
  simp only [tailT] at h
  obtain ⟨p5', rfl, f1, f2, f3, f4⟩ := beatsT_rd hb (n := n') (by omega) n' p4' B p5 h7 d1
  by_cases h8 : ((p5' : Nat) : Int) < l.length
  · rw [if_pos h8] at h; cases h
  rw [if_neg h8] at h
  simp only [Except.ok.injEq, Prod.mk.injEq] at h
  obtain ⟨rfl, rfl, rfl, rfl⟩ := h
  have hlen : (bld 0 as_ (List.replicate m [])).length = m := by rw [bld_len, List.length_replicate]
  refine ⟨?_, ⟨as_, by rw [hlen, b3], by rw [hlen]; exact b4, b5, by rw [hlen]⟩, ⟨by omega, by omega⟩, by rw [hlen], by omega, by omega, d3, fun b hb' => by rw [d2]; exact f3 b hb'⟩
  unfold encP
  rw [foesP_abs, bld_fwd b3 b4, d2]
  have f5 : l.drop p5' = [] := List.drop_of_length_le (by omega)
  rw [f5, List.append_nil] at f4
  conv => rhs; rw [e0, a5, b7, c5, d4, f4]
  simp only [uP, Int.toNat_natCast]
theorem thyT_er {l : List Int} (hb : Bytes l) {e q : Int} (h : thyT l = .error (e, q)) : e ≠ 0 ∧ 0 ≤ q ∧ q ≤ l.length := by
  unfold thyT at h
  rcases h1 : headT l 4 0 with z | u
  · rw [h1] at h
    obtain rfl := Except.error.inj h
    exact headT_er h1
  rw [h1] at h
  simp only at h
  obtain ⟨h4, e0⟩ := headT_rd h1
  rcases h2 : numT l 4 0 4096 3 with z | ⟨L, p1⟩
  · rw [h2] at h
    obtain rfl := Except.error.inj h
    exact num_er h2 (by omega) (by omega) (by decide)
  rw [h2] at h
  simp only at h
  obtain ⟨m, p1', rfl, rfl, a1, a2, a3, a4, a5⟩ := num_rd hb (p := 4) h2 h4 (by omega) (by omega) (by omega)
  rw [Int.toNat_natCast] at h
  rcases h3 : foesT l m m 0 p1' (List.replicate m []) with z | ⟨F, p2⟩
  · rw [h3] at h
    obtain rfl := Except.error.inj h
    exact foesT_er hb (n := m) (by omega) m 0 p1' _ h3 a4 (by omega)
  rw [h3] at h
  simp only at h
  obtain ⟨as_, p2', rfl, b1, b2, b3, b4, b5, rfl, b7⟩ := foesT_rd hb (n := m) (by omega) m 0 p1' _ _ _ h3 a4 (by omega)
  rcases h5 : numT l p2' 0 4096 3 with z | ⟨n, p3⟩
  · rw [h5] at h
    obtain rfl := Except.error.inj h
    exact num_er h5 (by omega) (by omega) (by decide)
  rw [h5] at h
  simp only at h
  obtain ⟨n', p3', rfl, rfl, c1, c2, c3, c4, c5⟩ := num_rd hb h5 b2 (by omega) (by omega) (by omega)
  rw [Int.toNat_natCast] at h
  rcases h6 : rulesT l m n' p3' with z | ⟨R, p4⟩
  · rw [h6] at h
    obtain rfl := Except.error.inj h
    exact rulesT_er hb ⟨by omega, by omega⟩ n' p3' h6 c4
  rw [h6] at h
  simp only at h
  obtain ⟨p4', rfl, d1, d2, d3, d4⟩ := rulesT_rd hb ⟨by omega, by omega⟩ n' p3' R p4 h6 c4
  rcases h7 : beatsT l n' n' p4' with z | ⟨B, p5⟩
  · rw [h7] at h
    simp only [tailT] at h
    obtain rfl := Except.error.inj h
    exact beatsT_er hb (n := n') (by omega) n' p4' h7 d1
  rw [h7] at h
  simp only [tailT] at h
  obtain ⟨p5', rfl, f1, f2, f3, f4⟩ := beatsT_rd hb (n := n') (by omega) n' p4' B p5 h7 d1
  by_cases h8 : ((p5' : Nat) : Int) < l.length
  · rw [if_pos h8] at h
    simp only [Except.error.injEq, Prod.mk.injEq] at h
    obtain ⟨rfl, rfl⟩ := h
    omega
  · rw [if_neg h8] at h; cases h
end Go.Proofs.Yteblkanjgnbkkaa.P
