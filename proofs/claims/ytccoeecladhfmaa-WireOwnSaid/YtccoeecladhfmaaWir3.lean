/- Plain laws of wire: what is read was laid so, and what is laid is read so. -/
import Derived.Test.YtccoeecladhfmaaWir2
import Derived.Test.YtccoeecladhfmaaWOct3
namespace Go.Proofs.Ytccoeecladhfmaa.P
open Go.RowKit Go.Proofs.YtccoeecladhfmaaW.PrintWords Go.Proofs.YtccoeecladhfmaaW.PrintLast

/-! what is read was laid so -/
theorem byte_rd {l : List Int} {p : Nat} {a b v : Int} (h : byteF l p a b = .ok v) (hp : p ≤ l.length) : a ≤ v ∧ v ≤ b ∧ p + 1 ≤ l.length ∧ l.drop p = v :: l.drop (p + 1) := by
  unfold byteF at h
  by_cases h1 : (p : Int) = l.length
  · rw [if_pos h1] at h; cases h
  · rw [if_neg h1] at h
    by_cases h2 : rd l p < a ∨ b < rd l p
    · rw [if_pos h2] at h; cases h
    · rw [if_neg h2] at h
      obtain rfl := Except.ok.inj h
      have hlt : p < l.length := by omega
      exact ⟨by omega, by omega, by omega, by rw [List.drop_eq_getElem_cons hlt, rd_lt hlt]⟩
theorem num_rd {l : List Int} (hb : Bytes l) {p : Nat} {m : Nat} (hm : m < 9223372036854775808) {v q : Int} (h : numF l p (m : Int) = .ok (v, q)) (hp : p ≤ l.length) :
    ∃ n q' : Nat, v = n ∧ q = q' ∧ n ≤ m ∧ p ≤ q' ∧ q' ≤ l.length ∧ l.drop p = vlq n ++ l.drop q' := by
  unfold numF at h
  simp only at h
  by_cases h1 : (ru l p).2.2 ≠ 0
  · rw [if_pos h1] at h; cases h
  · rw [if_neg h1] at h
    have h1 : (ru l p).2.2 = 0 := Classical.not_not.1 h1
    have e : ru l p = ruGo p l.length (l.drop p) 0 ((0 : Nat) : Int) := by
      unfold ru
      rw [if_neg (by omega), Int.toNat_natCast]
      rfl
    rw [e] at h1 h
    obtain ⟨n, _, g1, g2, g3, g4, g5⟩ := ruGo_read p l.length (l.drop p) 0 0 (fun x hx => hb x (List.mem_of_mem_drop hx)) (by omega) (by decide) h1
    simp only [Nat.mul_zero, Nat.pow_zero, Nat.mul_one, Nat.zero_add] at g1 g2
    rw [g2, g3, IntKind.wrap_u64] at h
    by_cases h2 : (m : Int) % 18446744073709551616 < (n : Int)
    · rw [if_pos h2] at h; cases h
    · rw [if_neg h2, w64 (by omega) (by omega)] at h
      obtain ⟨rfl, rfl⟩ := Prod.mk.inj (Except.ok.inj h)
      rw [List.length_drop] at g4
      refine ⟨n, p + (vlq n).length, rfl, by omega, by omega, by omega, by omega, ?_⟩
      rw [← List.drop_drop, ← List.take_append_drop (vlq n).length (l.drop p), g5]
      congr 1
      rw [List.drop_left' rfl]
theorem ok_bind {ε α β : Type} {x : Except ε α} {f : α → Except ε β} {b : β} (h : (x >>= f) = .ok b) : ∃ a, x = .ok a ∧ f a = .ok b := by
  cases x with
  | ok a => exact ⟨a, rfl, h⟩
  | error e => exact absurd h (by intro h; cases h)
theorem cho_rd {l : List Int} (hb : Bytes l) : ∀ (n p : Nat) (cs : List S54) (q : Int), choF l n p = .ok (cs, q) → p ≤ l.length →
    ∃ q' : Nat, q = q' ∧ p ≤ q' ∧ q' ≤ l.length ∧ cs.length = n ∧ cs.all choOk = true ∧ l.drop p = cP cs ++ l.drop q'
  | 0, p, cs, q, h, hp => by
    unfold choF at h
    obtain ⟨rfl, rfl⟩ := Prod.mk.inj (Except.ok.inj h)
    exact ⟨p, rfl, Nat.le_refl _, hp, rfl, rfl, rfl⟩
  | n + 1, p, cs, q, h, hp => by
    unfold choF at h
    obtain ⟨⟨a, p1⟩, e1, h⟩ := ok_bind h
    obtain ⟨⟨b, p2⟩, e2, h⟩ := ok_bind h
    obtain ⟨⟨cs', q1⟩, e3, h⟩ := ok_bind h
    obtain ⟨rfl, rfl⟩ := Prod.mk.inj (Except.ok.inj h)
    obtain ⟨a', p1', rfl, rfl, a1, a2, a3, a4⟩ := num_rd hb (m := 16) (by decide) e1 hp
    obtain ⟨b', p2', rfl, rfl, b1, b2, b3, b4⟩ := num_rd hb (m := 4096) (by decide) e2 a3
    obtain ⟨q', rfl, c1, c2, c3, c4, c5⟩ := cho_rd hb n p2' cs' _ e3 b3
    refine ⟨q', rfl, by omega, c2, by rw [List.length_cons, c3], ?_, ?_⟩
    · rw [List.all_cons, Bool.and_eq_true]
      exact ⟨(choOk_iff _).2 ⟨by show -1 ≤ (a' : Int) - 1; omega, by show (a' : Int) - 1 ≤ 15; omega, by show -1 ≤ (b' : Int) - 1; omega, by show (b' : Int) - 1 ≤ 4095; omega⟩, c4⟩
    · rw [a4, b4, c5, cP, vC]
      show _ = ((vlq ((a' : Int) - 1 + 1).toNat ++ vlq ((b' : Int) - 1 + 1).toNat) ++ cP cs') ++ _
      rw [show ((a' : Int) - 1 + 1).toNat = a' by omega, show ((b' : Int) - 1 + 1).toNat = b' by omega]
      simp only [List.append_assoc]
theorem step_rd {l : List Int} (hb : Bytes l) (p : Nat) (s : S52) (q : Int) (h : stepF l p = .ok (s, q)) (hp : p ≤ l.length) :
    ∃ q' : Nat, q = q' ∧ p ≤ q' ∧ q' ≤ l.length ∧ stpOk s = true ∧ l.drop p = sP s ++ l.drop q' := by
  unfold stepF at h
  obtain ⟨tag, e1, h⟩ := ok_bind h
  obtain ⟨⟨lit, p2⟩, e2, h⟩ := ok_bind h
  obtain ⟨how, e3, h⟩ := ok_bind h
  obtain ⟨⟨r, p3⟩, e4, h⟩ := ok_bind h
  obtain ⟨⟨n, p4⟩, e5, h⟩ := ok_bind h
  obtain ⟨⟨cs, q1⟩, e6, h⟩ := ok_bind h
  obtain ⟨rfl, rfl⟩ := Prod.mk.inj (Except.ok.inj h)
  obtain ⟨a1, a2, a3, a4⟩ := byte_rd e1 hp
  rw [show ((p : Int) + 1) = ((p + 1 : Nat) : Int) from by omega] at e2
  obtain ⟨lit', p2', rfl, rfl, b1, b2, b3, b4⟩ := num_rd hb (m := 4095) (by decide) e2 a3
  obtain ⟨c1, c2, c3, c4⟩ := byte_rd e3 b3
  rw [show ((p2' : Int) + 1) = ((p2' + 1 : Nat) : Int) from by omega] at e4
  obtain ⟨r', p3', rfl, rfl, d1, d2, d3, d4⟩ := num_rd hb (m := 4096) (by decide) e4 c3
  obtain ⟨n', p4', rfl, rfl, f1, f2, f3, f4⟩ := num_rd hb (m := 4096) (by decide) e5 d3
  rw [Int.toNat_natCast] at e6
  obtain ⟨q', rfl, g1, g2, g3, g4, g5⟩ := cho_rd hb n' p4' cs _ e6 f3
  refine ⟨q', rfl, by omega, g2, (stpOk_iff _).2 ⟨⟨a1, a2, c1, c2, by show 0 ≤ (lit' : Int); omega, by show (lit' : Int) ≤ 4095; omega, by show -1 ≤ (r' : Int) - 1; omega, by show (r' : Int) - 1 ≤ 4095; omega, by show cs.length ≤ 4096; omega⟩, g4⟩, ?_⟩
  rw [a4, b4, c4, d4, f4, g5, sP]
  show _ = (tag :: (vlq ((lit' : Int)).toNat ++ (how :: (vlq ((r' : Int) - 1 + 1).toNat ++ (vlq cs.length ++ cP cs))))) ++ _
  rw [show ((r' : Int) - 1 + 1).toNat = r' by omega, Int.toNat_natCast, g3]
  simp only [List.append_assoc, List.cons_append]
theorem list_rd {l : List Int} (hb : Bytes l) : ∀ (n p : Nat) (ss : List S52) (q : Int), listF l n p = .ok (ss, q) → p ≤ l.length →
    ∃ q' : Nat, q = q' ∧ p ≤ q' ∧ q' ≤ l.length ∧ ss.length = n ∧ ss.all stpOk = true ∧ l.drop p = bP ss ++ l.drop q'
  | 0, p, ss, q, h, hp => by
    unfold listF at h
    obtain ⟨rfl, rfl⟩ := Prod.mk.inj (Except.ok.inj h)
    exact ⟨p, rfl, Nat.le_refl _, hp, rfl, rfl, rfl⟩
  | n + 1, p, ss, q, h, hp => by
    unfold listF at h
    obtain ⟨⟨s, p1⟩, e1, h⟩ := ok_bind h
    obtain ⟨⟨ss', q1⟩, e2, h⟩ := ok_bind h
    obtain ⟨rfl, rfl⟩ := Prod.mk.inj (Except.ok.inj h)
    obtain ⟨p1', rfl, a1, a2, a3, a4⟩ := step_rd hb p s _ e1 hp
    obtain ⟨q', rfl, b1, b2, b3, b4, b5⟩ := list_rd hb n p1' ss' _ e2 a2
    refine ⟨q', rfl, by omega, b2, by rw [List.length_cons, b3], by rw [List.all_cons, Bool.and_eq_true]; exact ⟨a3, b4⟩, ?_⟩
    rw [a4, b5, bP, List.append_assoc]
theorem sum_rd {l : List Int} : ∀ (n p : Nat) (cs : List Int), sumF l n p = .ok cs → p ≤ l.length → p + n ≤ l.length ∧ cs.length = n ∧ l.drop p = cs ++ l.drop (p + n)
  | 0, p, cs, h, hp => by
    unfold sumF at h
    obtain rfl := Except.ok.inj h
    exact ⟨hp, rfl, rfl⟩
  | n + 1, p, cs, h, hp => by
    unfold sumF at h
    obtain ⟨c, e1, h⟩ := ok_bind h
    obtain ⟨cs', e2, h⟩ := ok_bind h
    obtain rfl := Except.ok.inj h
    obtain ⟨a1, a2, a3, a4⟩ := byte_rd e1 hp
    rw [show ((p : Int) + 1) = ((p + 1 : Nat) : Int) from by omega] at e2
    obtain ⟨b1, b2, b3⟩ := sum_rd n (p + 1) cs' e2 a3
    refine ⟨by omega, by rw [List.length_cons, b2], ?_⟩
    rw [a4, b3, List.cons_append, show p + 1 + n = p + (n + 1) by omega]
theorem head_rd {l : List Int} (h : headF l 4 0 = .ok ()) : 4 ≤ l.length ∧ l = [108, 120, 100, 1] ++ l.drop 4 := by
  simp only [headF] at h
  obtain ⟨c0, e0, h⟩ := ok_bind h
  obtain ⟨c1, e1, h⟩ := ok_bind h
  obtain ⟨c2, e2, h⟩ := ok_bind h
  obtain ⟨c3, e3, h⟩ := ok_bind h
  obtain ⟨a1, a2, a3, a4⟩ := byte_rd e0 (Nat.zero_le _)
  obtain ⟨b1, b2, b3, b4⟩ := byte_rd e1 a3
  obtain ⟨d1, d2, d3, d4⟩ := byte_rd e2 b3
  obtain ⟨f1, f2, f3, f4⟩ := byte_rd e3 d3
  have w0 : wrHd 0 = 108 := rfl
  have w1 : wrHd (0 + 1) = 120 := rfl
  have w2 : wrHd (0 + 1 + 1) = 100 := rfl
  have w3 : wrHd (0 + 1 + 1 + 1) = 1 := rfl
  obtain rfl : c0 = 108 := by omega
  obtain rfl : c1 = 120 := by omega
  obtain rfl : c2 = 100 := by omega
  obtain rfl : c3 = 1 := by omega
  refine ⟨f3, ?_⟩
  rw [List.drop_zero] at a4
  rw [b4, d4, f4] at a4
  exact a4
theorem steps_rd {l : List Int} (hb : Bytes l) {ss : List S52} (h : stepsF l = .ok ss) : fine ss ∧ l = encP ss := by
  unfold stepsF at h
  obtain ⟨_, e0, h⟩ := ok_bind h
  obtain ⟨⟨n, p⟩, e1, h⟩ := ok_bind h
  obtain ⟨⟨ss', q⟩, e2, h⟩ := ok_bind h
  obtain ⟨cs, e3, h⟩ := ok_bind h
  replace h : (if cs ≠ sum4 l q then Except.error ((13 : Int), q) else if q + 4 < l.length then .error (9, q + 4) else .ok ss') = Except.ok ss := h
  obtain ⟨a1, a2⟩ := head_rd e0
  obtain ⟨n', p', rfl, rfl, b1, b2, b3, b4⟩ := num_rd hb (p := 4) (m := 65536) (by decide) e1 a1
  rw [Int.toNat_natCast] at e2
  obtain ⟨q', rfl, c1, c2, c3, c4, c5⟩ := list_rd hb n' p' ss' _ e2 b3
  obtain ⟨d1, d2, d3⟩ := sum_rd 4 q' cs e3 c2
  by_cases h1 : cs ≠ sum4 l q'
  · rw [if_pos h1] at h; cases h
  · rw [if_neg h1] at h
    have h1 : cs = sum4 l q' := Classical.not_not.1 h1
    by_cases h2 : (q' : Int) + 4 < l.length
    · rw [if_pos h2] at h; cases h
    · rw [if_neg h2] at h
      obtain rfl := Except.ok.inj h
      have hl : l = tP ss' ++ l.drop q' := by
        conv => lhs; rw [a2, b4, c5]
        unfold tP
        rw [c3]
        simp only [List.append_assoc]
      have ht : tP ss' = l.take q' := by
        have hlen := congrArg List.length hl
        rw [List.length_append, List.length_drop] at hlen
        have hq : (tP ss').length = q' := by omega
        have h3 := congrArg (List.take q') hl
        rw [List.take_left' hq] at h3
        exact h3.symm
      refine ⟨⟨by omega, c4⟩, ?_⟩
      have hz : l.drop (q' + 4) = [] := List.drop_eq_nil_of_le (by omega)
      rw [hz, List.append_nil, h1] at d3
      conv => lhs; rw [hl, d3]
      unfold encP sum4 litL
      rw [Int.toNat_natCast, ← ht]
      rfl

/-! what is laid is read so -/
theorem byte_bk {l : List Int} {p : Nat} {a b v : Int} {rest : List Int} (h : l.drop p = v :: rest) (ha : a ≤ v) (hb : v ≤ b) : byteF l p a b = .ok v ∧ l.drop (p + 1) = rest := by
  have hlt : p < l.length := by
    rcases Nat.lt_or_ge p l.length with h1 | h1
    · exact h1
    · rw [List.drop_eq_nil_of_le h1] at h; cases h
  rw [List.drop_eq_getElem_cons hlt] at h
  obtain ⟨h1, h2⟩ := List.cons.inj h
  refine ⟨?_, h2⟩
  unfold byteF
  rw [if_neg (by omega), rd_lt hlt, h1, if_neg (by omega)]
theorem num_bk {l : List Int} {p n m : Nat} {rest : List Int} (hp : p ≤ l.length) (h : l.drop p = vlq n ++ rest) (hn : n ≤ m) (hm : m < 9223372036854775808) :
    numF l p (m : Int) = .ok ((n : Int), ((p + (vlq n).length : Nat) : Int)) ∧ p + (vlq n).length ≤ l.length ∧ l.drop (p + (vlq n).length) = rest := by
  have hl : l = l.take p ++ vlq n ++ rest := by rw [List.append_assoc, ← h, List.take_append_drop]
  have hr := ru_back n (by omega) (l.take p) rest
  rw [← hl, List.length_take, Nat.min_eq_left hp] at hr
  refine ⟨?_, ?_, ?_⟩
  · unfold numF
    rw [hr]
    simp only
    rw [if_neg (by decide), IntKind.wrap_u64, if_neg (by omega), w64 (by omega) (by omega)]
    rfl
  · have := congrArg List.length h
    rw [List.length_drop, List.length_append] at this
    omega
  · rw [← List.drop_drop, h, List.drop_left' rfl]
theorem cho_bk {l : List Int} : ∀ (cs : List S54) (p : Nat) (rest : List Int), p ≤ l.length → cs.all choOk = true → l.drop p = cP cs ++ rest →
    choF l cs.length p = .ok (cs, ((p + (cP cs).length : Nat) : Int)) ∧ p + (cP cs).length ≤ l.length ∧ l.drop (p + (cP cs).length) = rest
  | [], p, rest, hp, _, h => ⟨rfl, hp, h⟩
  | c :: cs, p, rest, hp, hok, h => by
    rw [List.all_cons, Bool.and_eq_true] at hok
    have hc := (choOk_iff _).1 hok.1
    rw [cP, vC, List.append_assoc, List.append_assoc] at h
    obtain ⟨a1, a2, a3⟩ := num_bk (m := 16) hp h (by omega) (by decide)
    obtain ⟨b1, b2, b3⟩ := num_bk (m := 4096) a2 a3 (by omega) (by decide)
    obtain ⟨c1, c2, c3⟩ := cho_bk cs _ rest b2 hok.2 b3
    have hlen : p + (cP (c :: cs)).length = p + (vlq (c.f0 + 1).toNat).length + (vlq (c.f1 + 1).toNat).length + (cP cs).length := by
      rw [cP, vC, List.length_append, List.length_append]; omega
    rw [hlen]
    refine ⟨?_, c2, c3⟩
    show choF l (cs.length + 1) p = _
    unfold choF
    rw [show (16 : Int) = ((16 : Nat) : Int) from rfl, show (4096 : Int) = ((4096 : Nat) : Int) from rfl, a1]
    show (numF l _ _ >>= _) = _
    rw [b1]
    show (choF l _ _ >>= _) = _
    rw [c1]
    show Except.ok _ = _
    rw [show (((c.f0 + 1).toNat : Nat) : Int) - 1 = c.f0 by omega, show (((c.f1 + 1).toNat : Nat) : Int) - 1 = c.f1 by omega]
theorem step_bk {l : List Int} (s : S52) (p : Nat) (rest : List Int) (hp : p ≤ l.length) (hok : stpOk s = true) (h : l.drop p = sP s ++ rest) :
    stepF l p = .ok (s, ((p + (sP s).length : Nat) : Int)) ∧ p + (sP s).length ≤ l.length ∧ l.drop (p + (sP s).length) = rest := by
  have hs := (stpOk_iff _).1 hok
  have hfull := congrArg List.length h
  rw [List.length_drop, List.length_append] at hfull
  have hl : (sP s).length = 1 + (vlq s.f1.toNat).length + 1 + (vlq (s.f3 + 1).toNat).length + (vlq s.f4.length).length + (cP s.f4).length := by
    unfold sP
    simp only [List.length_append, List.length_cons]
    omega
  have h' := h
  rw [sP] at h'
  simp only [List.append_assoc, List.cons_append] at h'
  obtain ⟨a1, a2⟩ := byte_bk (a := 1) (b := 4) h' (by omega) (by omega)
  obtain ⟨b1, b2, b3⟩ := num_bk (m := 4095) (by omega) a2 (by omega) (by decide)
  obtain ⟨c1, c2⟩ := byte_bk (a := 1) (b := 5) b3 (by omega) (by omega)
  obtain ⟨d1, d2, d3⟩ := num_bk (m := 4096) (by omega) c2 (by omega) (by decide)
  obtain ⟨e1, e2, e3⟩ := num_bk (m := 4096) d2 d3 (by omega) (by decide)
  obtain ⟨f1, f2, f3⟩ := cho_bk s.f4 _ rest e2 hs.2 e3
  have hend : p + (sP s).length = p + 1 + (vlq s.f1.toNat).length + 1 + (vlq (s.f3 + 1).toNat).length + (vlq s.f4.length).length + (cP s.f4).length := by omega
  rw [hend]
  refine ⟨?_, f2, f3⟩
  unfold stepF
  rw [a1]
  show (numF l _ _ >>= _) = _
  rw [show ((p : Int) + 1) = ((p + 1 : Nat) : Int) from by omega, show (4095 : Int) = ((4095 : Nat) : Int) from rfl, show (4096 : Int) = ((4096 : Nat) : Int) from rfl, b1]
  show (byteF l _ _ _ >>= _) = _
  rw [c1]
  show (numF l _ _ >>= _) = _
  rw [show (((p + 1 + (vlq s.f1.toNat).length : Nat) : Int) + 1) = ((p + 1 + (vlq s.f1.toNat).length + 1 : Nat) : Int) from by omega, d1]
  show (numF l _ _ >>= _) = _
  rw [e1]
  show (choF l _ _ >>= _) = _
  rw [Int.toNat_natCast, f1]
  show Except.ok _ = _
  rw [show (((s.f3 + 1).toNat : Nat) : Int) - 1 = s.f3 by omega, show ((s.f1.toNat : Nat) : Int) = s.f1 by omega]
theorem list_bk {l : List Int} : ∀ (ss : List S52) (p : Nat) (rest : List Int), p ≤ l.length → ss.all stpOk = true → l.drop p = bP ss ++ rest →
    listF l ss.length p = .ok (ss, ((p + (bP ss).length : Nat) : Int)) ∧ p + (bP ss).length ≤ l.length ∧ l.drop (p + (bP ss).length) = rest
  | [], p, rest, hp, _, h => ⟨rfl, hp, h⟩
  | s :: ss, p, rest, hp, hok, h => by
    rw [List.all_cons, Bool.and_eq_true] at hok
    rw [bP, List.append_assoc] at h
    obtain ⟨a1, a2, a3⟩ := step_bk s p _ hp hok.1 h
    obtain ⟨c1, c2, c3⟩ := list_bk ss _ rest a2 hok.2 a3
    have hlen : p + (bP (s :: ss)).length = p + (sP s).length + (bP ss).length := by
      rw [bP, List.length_append]; omega
    rw [hlen]
    refine ⟨?_, c2, c3⟩
    show listF l (ss.length + 1) p = _
    unfold listF
    rw [a1]
    show (listF l _ _ >>= _) = _
    rw [c1]
    rfl
theorem sum_bk {l : List Int} : ∀ (cs : List Int) (p : Nat) (rest : List Int), Bytes cs → l.drop p = cs ++ rest → sumF l cs.length p = .ok cs
  | [], _, _, _, _ => rfl
  | c :: cs, p, rest, hb, h => by
    have hc := hb c (List.mem_cons_self ..)
    obtain ⟨a1, a2⟩ := byte_bk (a := 0) (b := 255) h (by omega) (by omega)
    have b1 := sum_bk cs (p + 1) rest (fun x hx => hb x (List.mem_cons_of_mem _ hx)) a2
    show sumF l (cs.length + 1) p = _
    unfold sumF
    rw [a1]
    show (sumF l _ _ >>= _) = _
    rw [show ((p : Int) + 1) = ((p + 1 : Nat) : Int) from by omega, b1]
    rfl
theorem head_bk {l rest : List Int} (h : l = [108, 120, 100, 1] ++ rest) : headF l 4 0 = .ok () := by
  have h0 : l.drop 0 = 108 :: (120 :: (100 :: (1 :: rest))) := h
  obtain ⟨a1, a2⟩ := byte_bk (a := 108) (b := 108) h0 (by decide) (by decide)
  obtain ⟨b1, b2⟩ := byte_bk (a := 120) (b := 120) a2 (by decide) (by decide)
  obtain ⟨c1, c2⟩ := byte_bk (a := 100) (b := 100) b2 (by decide) (by decide)
  obtain ⟨d1, d2⟩ := byte_bk (a := 1) (b := 1) c2 (by decide) (by decide)
  rw [headF_ok (show byteF l ((0 : Nat) : Int) (wrHd 0) (wrHd 0) = .ok 108 from a1), headF_ok (show byteF l ((0 + 1 : Nat) : Int) (wrHd (0 + 1)) (wrHd (0 + 1)) = .ok 120 from b1),
    headF_ok (show byteF l ((0 + 1 + 1 : Nat) : Int) (wrHd (0 + 1 + 1)) (wrHd (0 + 1 + 1)) = .ok 100 from c1), headF_ok (show byteF l ((0 + 1 + 1 + 1 : Nat) : Int) (wrHd (0 + 1 + 1 + 1)) (wrHd (0 + 1 + 1 + 1)) = .ok 1 from d1)]
  rfl
theorem lit_bytes (n : Int) : Bytes (litL n) := by
  show Bytes [n % 256, n / 256 % 256, n / 65536 % 256, n / 16777216 % 256]
  exact bytes_cons (by omega) (bytes_cons (by omega) (bytes_cons (by omega) (bytes_cons (by omega) bytes_nil)))
theorem encP_bytes {l : List S52} (h : fine l) : Bytes (encP l) := bytes_app (tP_bytes h.2) (lit_bytes _)
theorem steps_bk {ss : List S52} (h : fine ss) : stepsF (encP ss) = .ok ss := by
  obtain ⟨l, hl⟩ : ∃ l, l = encP ss := ⟨_, rfl⟩
  rw [← hl]
  have hl1 := hl
  unfold encP tP at hl1
  simp only [List.append_assoc] at hl1
  have h0 := head_bk hl1
  have hd4 : l.drop 4 = vlq ss.length ++ (bP ss ++ litL (crcL (tP ss))) := by rw [hl1]; rfl
  have hlen4 : 4 ≤ l.length := by rw [hl1]; simp only [List.length_append, List.length_cons, List.length_nil]; omega
  have hs := h.1
  obtain ⟨a1, a2, a3⟩ := num_bk (m := 65536) hlen4 hd4 h.1 (by decide)
  obtain ⟨b1, b2, b3⟩ := list_bk ss _ _ a2 h.2 a3
  have hq : 4 + (vlq ss.length).length + (bP ss).length = (tP ss).length := by
    unfold tP
    simp only [List.length_append, List.length_cons, List.length_nil]
    omega
  rw [hq] at b1 b2 b3
  have c1 := sum_bk (litL (crcL (tP ss))) (tP ss).length [] (lit_bytes _) (by rw [b3, List.append_nil])
  have hll : l.length = (tP ss).length + 4 := by rw [hl]; unfold encP; rw [List.length_append]; rfl
  have htake : l.take (tP ss).length = tP ss := by rw [hl]; unfold encP; exact List.take_left' rfl
  unfold stepsF
  rw [h0]
  show (numF l _ _ >>= _) = _
  rw [show (4 : Int) = ((4 : Nat) : Int) from rfl, show (65536 : Int) = ((65536 : Nat) : Int) from rfl, a1]
  show (listF l _ _ >>= _) = _
  rw [Int.toNat_natCast, b1]
  show (sumF l 4 _ >>= _) = _
  rw [show sumF l 4 ((tP ss).length : Int) = .ok (litL (crcL (tP ss))) from c1]
  show (if litL (crcL (tP ss)) ≠ sum4 l ((tP ss).length : Int) then _ else _) = _
  have hsum : sum4 l ((tP ss).length : Int) = litL (crcL (tP ss)) := by
    unfold sum4
    rw [Int.toNat_natCast, htake]
    rfl
  rw [hsum, if_neg (fun h => h rfl), if_neg (by omega)]
  rfl

/-! refusals have a number -/
theorem err_bind {ε α β : Type} {x : Except ε α} {f : α → Except ε β} {e : ε} (h : (x >>= f) = .error e) : x = .error e ∨ ∃ a, x = .ok a ∧ f a = .error e := by
  cases x with
  | ok a => exact .inr ⟨a, rfl, h⟩
  | error e' => exact .inl (by cases h; rfl)
theorem byte_er {l : List Int} {p a b : Int} {e : Int × Int} (h : byteF l p a b = .error e) : e.1 ≠ 0 := by
  unfold byteF at h
  by_cases h1 : p = l.length
  · rw [if_pos h1] at h; cases h; show (8 : Int) ≠ 0; decide
  · rw [if_neg h1] at h
    by_cases h2 : rd l p < a ∨ b < rd l p
    · rw [if_pos h2] at h; cases h; show (211 : Int) ≠ 0; decide
    · rw [if_neg h2] at h; cases h
theorem num_er {l : List Int} {p m : Int} {e : Int × Int} (h : numF l p m = .error e) : e.1 ≠ 0 := by
  unfold numF at h
  simp only at h
  by_cases h1 : (ru l p).2.2 ≠ 0
  · rw [if_pos h1] at h; cases h; exact h1
  · rw [if_neg h1] at h
    by_cases h2 : IntKind.u64.wrap m < (ru l p).1
    · rw [if_pos h2] at h; cases h; show (211 : Int) ≠ 0; decide
    · rw [if_neg h2] at h; cases h
theorem cho_er {l : List Int} {e : Int × Int} : ∀ {n : Nat} {p : Int}, choF l n p = .error e → e.1 ≠ 0
  | 0, _, h => by cases h
  | n + 1, p, h => by
    unfold choF at h
    rcases err_bind h with h | ⟨a, _, h⟩
    · exact num_er h
    rcases err_bind h with h | ⟨a, _, h⟩
    · exact num_er h
    rcases err_bind h with h | ⟨a, _, h⟩
    · exact cho_er h
    cases h
theorem step_er {l : List Int} {e : Int × Int} {p : Int} (h : stepF l p = .error e) : e.1 ≠ 0 := by
  unfold stepF at h
  rcases err_bind h with h | ⟨a, _, h⟩
  · exact byte_er h
  rcases err_bind h with h | ⟨a, _, h⟩
  · exact num_er h
  rcases err_bind h with h | ⟨a, _, h⟩
  · exact byte_er h
  rcases err_bind h with h | ⟨a, _, h⟩
  · exact num_er h
  rcases err_bind h with h | ⟨a, _, h⟩
  · exact num_er h
  rcases err_bind h with h | ⟨a, _, h⟩
  · exact cho_er h
  cases h
theorem list_er {l : List Int} {e : Int × Int} : ∀ {n : Nat} {p : Int}, listF l n p = .error e → e.1 ≠ 0
  | 0, _, h => by cases h
  | n + 1, p, h => by
    unfold listF at h
    rcases err_bind h with h | ⟨a, _, h⟩
    · exact step_er h
    rcases err_bind h with h | ⟨a, _, h⟩
    · exact list_er h
    cases h
theorem sum_er {l : List Int} {e : Int × Int} : ∀ {n : Nat} {p : Int}, sumF l n p = .error e → e.1 ≠ 0
  | 0, _, h => by cases h
  | n + 1, p, h => by
    unfold sumF at h
    rcases err_bind h with h | ⟨a, _, h⟩
    · exact byte_er h
    rcases err_bind h with h | ⟨a, _, h⟩
    · exact sum_er h
    cases h
theorem head_er {l : List Int} {e : Int × Int} : ∀ {n i : Nat}, headF l n i = .error e → e.1 ≠ 0
  | 0, _, h => by cases h
  | n + 1, i, h => by
    unfold headF at h
    rcases err_bind h with h | ⟨a, _, h⟩
    · exact byte_er h
    exact head_er h
theorem steps_er {l : List Int} {e : Int × Int} (h : stepsF l = .error e) : e.1 ≠ 0 := by
  unfold stepsF at h
  rcases err_bind h with h | ⟨a, _, h⟩
  · exact head_er h
  rcases err_bind h with h | ⟨⟨n, p⟩, _, h⟩
  · exact num_er h
  rcases err_bind h with h | ⟨⟨ss, q⟩, _, h⟩
  · exact list_er h
  rcases err_bind h with h | ⟨cs, _, h⟩
  · exact sum_er h
  replace h : (if cs ≠ sum4 l q then Except.error ((13 : Int), q) else if q + 4 < l.length then .error (9, q + 4) else .ok ss) = Except.error e := h
  by_cases h1 : cs ≠ sum4 l q
  · rw [if_pos h1] at h; cases h; show (13 : Int) ≠ 0; decide
  · rw [if_neg h1] at h
    by_cases h2 : q + 4 < l.length
    · rw [if_pos h2] at h; cases h; show (9 : Int) ≠ 0; decide
    · rw [if_neg h2] at h; cases h
end Go.Proofs.Ytccoeecladhfmaa.P
