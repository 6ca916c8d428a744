/- The plain law of WireDecodes: the document's reader, with its sticky error, reads what the program's reads. -/
import Derived.Test.YtccoeecladhfmaaPx12
import Derived.Test.YtccoeecladhfmaaWir3
import Derived.Test.YtccoeecladhfmaaOpnB
namespace Go.Proofs.Ytccoeecladhfmaa.Pure
open Go.RowKit Go.Proofs.Ytccoeecladhfmaa.P Go.Proofs.YtccoeecladhfmaaW.PrintWords Go.Proofs.YtccoeecladhfmaaW.PrintLast

theorem rread40 (b : List Int) (hb : Bytes b) (hl : b.length ≤ 140737488355328) (at_ : Int) (k : Nat) (hk : 40 ≤ k) : lexpriorref01_ReadUint.f k b at_ = some (ru b at_) := by
  obtain ⟨k, rfl⟩ : ∃ m, k = m + 1 := ⟨k - 1, by omega⟩
  unfold lexpriorref01_ReadUint.f ru
  simp only [lexpriorref01_ReadUint.j0]
  by_cases h0 : at_ < 0
  · simp only [if_pos h0, if_pos (show at_ < 0 ∨ (b.length : Int) < at_ from .inl h0), if_true]
  · rw [if_neg h0]
    by_cases h1 : (b.length : Int) < at_
    · simp only [decide_eq_true_eq, if_pos (show at_ > (b.length : Int) from h1), if_pos (show at_ < 0 ∨ (b.length : Int) < at_ from .inr h1)]
    · simp only [decide_eq_true_eq, if_neg (show ¬ at_ > (b.length : Int) from h1), if_neg (show ¬ (at_ < 0 ∨ (b.length : Int) < at_) from fun h => h.elim h0 h1)]
      obtain ⟨a, rfl⟩ := Int.eq_ofNat_of_zero_le (show 0 ≤ at_ from by omega)
      have h := rread_l0 b hb hl a (by omega) 9 k 0 0 (by omega) (by omega) (by omega) (by omega)
      rw [Int.toNat_natCast]
      exact h
/-! one byte, one number -/
theorem byte_st {l : List Int} (hl : l.length ≤ 140737488355328) {p : Nat} {a b : Int} (hp : p ≤ l.length) :
    (∀ v, byteF l p a b = .ok v → lexpriorref21_Reader_byte1.f l p 0 a b = some (v, ((p + 1 : Nat) : Int), 0)) ∧
    (∀ e q, byteF l p a b = .error (e, q) → lexpriorref21_Reader_byte1.f l p 0 a b = some (0, q, e)) := by
  by_cases h2 : (p : Int) = l.length
  · have e1 : byteF l p a b = .error (8, (p : Int)) := by unfold byteF; rw [if_pos h2]
    have e2 : lexpriorref21_Reader_byte1.f l p 0 a b = some (0, (p : Int), 8) := by
      unfold lexpriorref21_Reader_byte1.f lexpriorref21_Reader_fail.f
      rw [if_pos rfl, if_pos (by omega), if_pos rfl, h2]; rfl
    rw [e1, e2]
    exact ⟨fun v h => (by cases h), fun e q h => (by cases h; rfl)⟩
  · by_cases h3 : rd l p < a
    · have e1 : byteF l p a b = .error (211, (p : Int)) := by unfold byteF; rw [if_neg h2, if_pos (Or.inl h3)]
      have e2 : lexpriorref21_Reader_byte1.f l p 0 a b = some (0, (p : Int), 211) := by
        unfold lexpriorref21_Reader_byte1.f lexpriorref21_Reader_fail.f
        rw [if_pos rfl, if_neg (by omega), if_pos (by omega), if_pos (by omega), if_pos h3, if_pos rfl]; rfl
      rw [e1, e2]
      exact ⟨fun v h => (by cases h), fun e q h => (by cases h; rfl)⟩
    · by_cases h4 : rd l p > b
      · have e1 : byteF l p a b = .error (211, (p : Int)) := by unfold byteF; rw [if_neg h2, if_pos (Or.inr h4)]
        have e2 : lexpriorref21_Reader_byte1.f l p 0 a b = some (0, (p : Int), 211) := by
          unfold lexpriorref21_Reader_byte1.f lexpriorref21_Reader_fail.f
          rw [if_pos rfl, if_neg (by omega), if_pos (by omega), if_pos (by omega), if_neg h3, if_pos h4, if_pos rfl]; rfl
        rw [e1, e2]
        exact ⟨fun v h => (by cases h), fun e q h => (by cases h; rfl)⟩
      · have e1 : byteF l p a b = .ok (rd l p) := by unfold byteF; rw [if_neg h2, if_neg (fun h => h.elim h3 h4)]
        have e2 : lexpriorref21_Reader_byte1.f l p 0 a b = some (rd l p, ((p + 1 : Nat) : Int), 0) := by
          unfold lexpriorref21_Reader_byte1.f
          rw [if_pos rfl, if_neg (by omega), if_pos (by omega), if_pos (by omega), if_neg h3, if_neg h4, w64 (by omega) (by omega)]; rfl
        rw [e1, e2]
        exact ⟨fun v h => (by cases h; rfl), fun e q h => (by cases h)⟩
theorem byte_st_e {l : List Int} {p e a b : Int} (he : e ≠ 0) : lexpriorref21_Reader_byte1.f l p e a b = some (0, p, e) := by
  unfold lexpriorref21_Reader_byte1.f
  rw [if_neg he]
theorem num_st {l : List Int} (hb : Bytes l) (hl : l.length ≤ 140737488355328) {k : Nat} (hk : 40 ≤ k) {p m : Int} :
    (∀ v q, numF l p m = .ok (v, q) → lexpriorref21_Reader_num.f k l p 0 m = some (v, q, 0)) ∧
    (∀ e q, numF l p m = .error (e, q) → lexpriorref21_Reader_num.f k l p 0 m = some (0, q, e)) := by
  have e0 : lexpriorref21_Reader_num.f k l p 0 m = if (ru l p).2.2 = 0 then (if IntKind.u64.wrap m < (ru l p).1 then some (0, p, 211) else some (wrap64 (ru l p).1, (ru l p).2.1, 0)) else some (0, (ru l p).2.1, (ru l p).2.2) := by
    unfold lexpriorref21_Reader_num.f
    rw [if_pos rfl, rread40 l hb hl p k hk]
    rfl
  by_cases h1 : (ru l p).2.2 = 0
  · by_cases h2 : IntKind.u64.wrap m < (ru l p).1
    · have e1 : numF l p m = .error (211, p) := by unfold numF; simp only; rw [if_neg (fun h => h h1), if_pos h2]
      rw [e0, if_pos h1, if_pos h2, e1]
      exact ⟨fun v q h => (by cases h), fun e q h => (by cases h; rfl)⟩
    · have e1 : numF l p m = .ok (wrap64 (ru l p).1, (ru l p).2.1) := by unfold numF; simp only; rw [if_neg (fun h => h h1), if_neg h2]
      rw [e0, if_pos h1, if_neg h2, e1]
      exact ⟨fun v q h => (by cases h; rfl), fun e q h => (by cases h)⟩
  · have e1 : numF l p m = .error ((ru l p).2.2, (ru l p).2.1) := by unfold numF; simp only; rw [if_pos h1]
    rw [e0, if_neg h1, e1]
    exact ⟨fun v q h => (by cases h), fun e q h => (by cases h; rfl)⟩
theorem num_st_e {l : List Int} {k : Nat} {p e m : Int} (he : e ≠ 0) : lexpriorref21_Reader_num.f k l p e m = some (0, p, e) := by
  unfold lexpriorref21_Reader_num.f
  rw [if_neg he]
/-! the head -/
theorem hd_st_e {l : List Int} {p e : Int} (he : e ≠ 0) : ∀ n i, rHd l n i p e = some (p, e)
  | 0, _ => rfl
  | n + 1, i => by rw [rHd, byte_st_e he]; exact hd_st_e he n (i + 1)
theorem hd_st {l : List Int} (hl : l.length ≤ 140737488355328) : ∀ (n p : Nat), p ≤ l.length →
    (headF l n p = .ok () → p + n ≤ l.length ∧ rHd l n p p 0 = some (((p + n : Nat) : Int), 0)) ∧ (∀ e q, headF l n p = .error (e, q) → rHd l n p p 0 = some (q, e))
  | 0, p, hp => ⟨fun _ => ⟨hp, rfl⟩, fun e q h => (by cases h)⟩
  | n + 1, p, hp => by
    have hs := @byte_st l hl p (wrHd p) (wrHd p) hp
    rcases hx : byteF l p (wrHd p) (wrHd p) with ⟨e1, q1⟩ | v
    · rw [headF_bad hx]
      refine ⟨fun h => (by cases h), fun e q h => ?_⟩
      cases h
      rw [rHd, hs.2 _ _ hx]
      exact hd_st_e (byte_er hx) n (p + 1)
    · obtain ⟨_, _, hq, _⟩ := byte_rd hx hp
      have ih := hd_st hl n (p + 1) hq
      rw [headF_ok hx]
      rw [rHd, hs.1 _ hx]
      refine ⟨fun h => ?_, fun e q h => ?_⟩
      · obtain ⟨i1, i2⟩ := ih.1 h
        exact ⟨by omega, by rw [show p + (n + 1) = p + 1 + n by omega]; exact i2⟩
      · exact ih.2 e q h
/-! choices -/
theorem cho_st_e {l : List Int} {k : Nat} {p e : Int} (he : e ≠ 0) : ∀ n, rCho k l n p e = some ([], p, e)
  | 0 => rfl
  | n + 1 => by rw [rCho, if_neg he]
theorem cho_st {l : List Int} (hb : Bytes l) (hl : l.length ≤ 140737488355328) {k : Nat} (hk : 40 ≤ k) : ∀ (n p : Nat), p ≤ l.length →
    (∀ cs q, choF l n p = .ok (cs, q) → rCho k l n p 0 = some (cs, q, 0)) ∧ (∀ e q, choF l n p = .error (e, q) → ∃ cs, rCho k l n p 0 = some (cs, q, e))
  | 0, p, hp => ⟨fun cs q h => (by cases h; rfl), fun e q h => (by cases h)⟩
  | n + 1, p, hp => by
    rw [rCho, if_pos rfl]
    unfold choF
    have s1 := @num_st l hb hl k hk p 16
    rcases h1 : numF l p 16 with ⟨e1, q1⟩ | ⟨a, p1⟩
    · have hne : e1 ≠ 0 := num_er h1
      refine ⟨fun cs q h => (by cases h), fun e q h => ?_⟩
      cases h
      rw [s1.2 _ _ h1]
      simp only [Option.bind_some]
      rw [num_st_e hne]
      simp only [Option.bind_some]
      rw [cho_st_e hne]
      exact ⟨_, rfl⟩
    · obtain ⟨a', p1', rfl, rfl, a1, a2, a3, a4⟩ := num_rd hb (m := 16) (by decide) h1 hp
      rw [s1.1 _ _ h1]
      simp only [Option.bind_some]
      have s2 := @num_st l hb hl k hk p1' 4096
      rcases h2 : numF l p1' 4096 with ⟨e1, q1⟩ | ⟨b, p2⟩
      · have hne : e1 ≠ 0 := num_er h2
        refine ⟨fun cs q h => ?_, fun e q h => ?_⟩
        · have h : (numF l p1' 4096 >>= _) = _ := h
          rw [h2] at h; cases h
        · have h : (numF l p1' 4096 >>= _) = _ := h
          rw [h2] at h
          cases h
          rw [s2.2 _ _ h2]
          simp only [Option.bind_some]
          rw [cho_st_e hne]
          exact ⟨_, rfl⟩
      · obtain ⟨b', p2', rfl, rfl, b1, b2, b3, b4⟩ := num_rd hb (m := 4096) (by decide) h2 a3
        rw [s2.1 _ _ h2]
        simp only [Option.bind_some]
        have ih := cho_st hb hl hk n p2' b3
        rcases h3 : choF l n p2' with ⟨e1, q1⟩ | ⟨cs, q⟩
        · obtain ⟨cs', i2⟩ := ih.2 _ _ h3
          refine ⟨fun cs q h => ?_, fun e q h => ?_⟩
          · have h : (numF l p1' 4096 >>= _) = _ := h
            rw [h2] at h
            have h : (choF l n p2' >>= _) = _ := h
            rw [h3] at h; cases h
          · have h : (numF l p1' 4096 >>= _) = _ := h
            rw [h2] at h
            have h : (choF l n p2' >>= _) = _ := h
            rw [h3] at h
            cases h
            rw [i2]
            exact ⟨_, rfl⟩
        · have i1 := ih.1 _ _ h3
          refine ⟨fun cs2 q2 h => ?_, fun e q h => ?_⟩
          · have h : (numF l p1' 4096 >>= _) = _ := h
            rw [h2] at h
            have h : (choF l n p2' >>= _) = _ := h
            rw [h3] at h
            cases h
            rw [i1]
            simp only [Option.bind_some]
            rw [w64 (by omega) (by omega), w64 (by omega) (by omega)]
          · have h : (numF l p1' 4096 >>= _) = _ := h
            rw [h2] at h
            have h : (choF l n p2' >>= _) = _ := h
            rw [h3] at h; cases h
/-! a step -/
theorem bindE {α β : Type} {x : Except (Int × Int) α} {f : α → Except (Int × Int) β} {e : Int × Int} (h : x = .error e) : (x >>= f) = .error e := by rw [h]; rfl
theorem bindO {α β : Type} {x : Except (Int × Int) α} {f : α → Except (Int × Int) β} {a : α} (h : x = .ok a) : (x >>= f) = f a := by rw [h]; rfl
theorem step_st {l : List Int} (hb : Bytes l) (hl : l.length ≤ 140737488355328) {k : Nat} (hk : 40 ≤ k) (p : Nat) (hp : p ≤ l.length) :
    (∀ s q, stepF l p = .ok (s, q) → rStep k l p 0 = some (s, q, 0)) ∧ (∀ e q, stepF l p = .error (e, q) → ∃ s, rStep k l p 0 = some (s, q, e)) := by
  have s1 := @byte_st l hl p 1 4 hp
  unfold rStep
  rcases h1 : byteF l p 1 4 with ⟨e1, q1⟩ | t
  · have hne : e1 ≠ 0 := byte_er h1
    have hf : stepF l p = .error (e1, q1) := by unfold stepF; exact bindE h1
    rw [hf]
    refine ⟨fun s q h => (by cases h), fun e q h => ?_⟩
    cases h
    rw [s1.2 _ _ h1]
    simp only [Option.bind_some, num_st_e hne, byte_st_e hne]
    rw [if_pos (by decide), cho_st_e hne]
    exact ⟨_, rfl⟩
  obtain ⟨t1, t2, t3, t4⟩ := byte_rd h1 hp
  have s2 := @num_st l hb hl k hk ((p + 1 : Nat) : Int) 4095
  rw [s1.1 _ h1]
  simp only [Option.bind_some]
  have f1 : stepF l p = (numF l ((p + 1 : Nat) : Int) 4095 >>= fun x => byteF l x.2 1 5 >>= fun how => numF l (x.2 + 1) 4096 >>= fun y => numF l y.2 4096 >>= fun z => choF l z.1.toNat z.2 >>= fun w => .ok (⟨t, x.1, how, y.1 - 1, w.1⟩, w.2)) := by
    unfold stepF
    exact bindO h1
  rw [f1]
  clear f1
  rcases h2 : numF l ((p + 1 : Nat) : Int) 4095 with ⟨e1, q1⟩ | ⟨li, p2⟩
  · have hne : e1 ≠ 0 := num_er h2
    refine ⟨fun s q h => (by cases h), fun e q h => ?_⟩
    cases h
    rw [s2.2 _ _ h2]
    simp only [Option.bind_some, num_st_e hne, byte_st_e hne]
    rw [if_pos (by decide), cho_st_e hne]
    exact ⟨_, rfl⟩
  obtain ⟨li, p2, rfl, rfl, a1, a2, a3, a4⟩ := num_rd hb (m := 4095) (by decide) h2 t3
  have s3 := @byte_st l hl p2 1 5 a3
  rw [s2.1 _ _ h2]
  simp only [Option.bind_some]
  have f2 : ∀ {β : Type} (f : Int × Int → Except (Int × Int) β), (Except.ok ((li : Int), (p2 : Int)) >>= f) = f ((li : Int), (p2 : Int)) := fun f => rfl
  rw [f2]
  simp only
  rcases h3 : byteF l p2 1 5 with ⟨e1, q1⟩ | how
  · have hne : e1 ≠ 0 := byte_er h3
    refine ⟨fun s q h => (by cases h), fun e q h => ?_⟩
    cases h
    rw [s3.2 _ _ h3]
    simp only [Option.bind_some, num_st_e hne]
    rw [if_pos (by decide), cho_st_e hne]
    exact ⟨_, rfl⟩
  obtain ⟨b1, b2, b3, b4⟩ := byte_rd h3 a3
  have s4 := @num_st l hb hl k hk ((p2 + 1 : Nat) : Int) 4096
  rw [s3.1 _ h3]
  simp only [Option.bind_some]
  have f3 : ∀ {β : Type} (f : Int → Except (Int × Int) β), (Except.ok how >>= f) = f how := fun f => rfl
  rw [f3, show ((p2 : Int) + 1) = ((p2 + 1 : Nat) : Int) from by omega]
  rcases h4 : numF l ((p2 + 1 : Nat) : Int) 4096 with ⟨e1, q1⟩ | ⟨r, p3⟩
  · have hne : e1 ≠ 0 := num_er h4
    refine ⟨fun s q h => (by cases h), fun e q h => ?_⟩
    cases h
    rw [s4.2 _ _ h4]
    simp only [Option.bind_some, num_st_e hne]
    rw [if_pos (by decide), cho_st_e hne]
    exact ⟨_, rfl⟩
  obtain ⟨r, p3, rfl, rfl, c1, c2, c3, c4⟩ := num_rd hb (m := 4096) (by decide) h4 b3
  have s5 := @num_st l hb hl k hk (p3 : Int) 4096
  rw [s4.1 _ _ h4]
  simp only [Option.bind_some]
  have f4 : ∀ {β : Type} (f : Int × Int → Except (Int × Int) β), (Except.ok ((r : Int), (p3 : Int)) >>= f) = f ((r : Int), (p3 : Int)) := fun f => rfl
  rw [f4]
  simp only
  rcases h5 : numF l (p3 : Int) 4096 with ⟨e1, q1⟩ | ⟨n, p4⟩
  · have hne : e1 ≠ 0 := num_er h5
    refine ⟨fun s q h => (by cases h), fun e q h => ?_⟩
    cases h
    rw [s5.2 _ _ h5]
    simp only [Option.bind_some]
    rw [if_pos (by decide), cho_st_e hne]
    exact ⟨_, rfl⟩
  obtain ⟨n, p4, rfl, rfl, d1, d2, d3, d4⟩ := num_rd hb (m := 4096) (by decide) h5 c3
  have s6 := cho_st hb hl hk n p4 d3
  rw [s5.1 _ _ h5]
  simp only [Option.bind_some]
  have f5 : ∀ {β : Type} (f : Int × Int → Except (Int × Int) β), (Except.ok ((n : Int), (p4 : Int)) >>= f) = f ((n : Int), (p4 : Int)) := fun f => rfl
  rw [f5, if_pos (by omega)]
  simp only [Int.toNat_natCast]
  rcases h6 : choF l n (p4 : Int) with ⟨e1, q1⟩ | ⟨cs, q1⟩
  · obtain ⟨cs', i2⟩ := s6.2 _ _ h6
    refine ⟨fun s q h => (by cases h), fun e q h => ?_⟩
    cases h
    rw [i2]
    exact ⟨_, rfl⟩
  · rw [s6.1 _ _ h6]
    refine ⟨fun s q h => ?_, fun e q h => (by cases h)⟩
    cases h
    simp only [Option.bind_some]
    rw [w64 (by omega) (by omega)]
theorem list_st_e {l : List Int} {k : Nat} {p e : Int} (he : e ≠ 0) : ∀ n, rList k l n p e = some ([], p, e)
  | 0 => rfl
  | n + 1 => by rw [rList, if_neg he]
theorem list_st {l : List Int} (hb : Bytes l) (hl : l.length ≤ 140737488355328) {k : Nat} (hk : 40 ≤ k) : ∀ (n p : Nat), p ≤ l.length →
    (∀ ss q, listF l n p = .ok (ss, q) → rList k l n p 0 = some (ss, q, 0)) ∧ (∀ e q, listF l n p = .error (e, q) → ∃ ss, rList k l n p 0 = some (ss, q, e))
  | 0, p, hp => ⟨fun cs q h => (by cases h; rfl), fun e q h => (by cases h)⟩
  | n + 1, p, hp => by
    rw [rList, if_pos rfl]
    unfold listF
    have s1 := step_st hb hl hk p hp
    rcases h1 : stepF l p with ⟨e1, q1⟩ | ⟨s, p1⟩
    · obtain ⟨s', i2⟩ := s1.2 _ _ h1
      refine ⟨fun ss q h => (by cases h), fun e q h => ?_⟩
      cases h
      rw [i2]
      simp only [Option.bind_some]
      rw [list_st_e (step_er h1)]
      exact ⟨_, rfl⟩
    · obtain ⟨p1', rfl, a1, a2, a3, a4⟩ := step_rd hb p s _ h1 hp
      rw [s1.1 _ _ h1]
      simp only [Option.bind_some]
      have ih := list_st hb hl hk n p1' a2
      have f1 : ∀ {β : Type} (f : _ × Int → Except (Int × Int) β), (Except.ok (s, (p1' : Int)) >>= f) = f (s, (p1' : Int)) := fun f => rfl
      rw [f1]
      simp only
      rcases h3 : listF l n p1' with ⟨e1, q1⟩ | ⟨cs, q⟩
      · obtain ⟨cs', i2⟩ := ih.2 _ _ h3
        refine ⟨fun ss q h => (by cases h), fun e q h => ?_⟩
        cases h
        rw [i2]
        exact ⟨_, rfl⟩
      · rw [ih.1 _ _ h3]
        refine ⟨fun ss q h => (by cases h; rfl), fun e q h => (by cases h)⟩
theorem sum_st_e {l : List Int} {p e : Int} (he : e ≠ 0) : ∀ n, rSum l n p e = some ([], p, e)
  | 0 => rfl
  | n + 1 => by rw [rSum, if_neg he]
theorem sum_st {l : List Int} (hl : l.length ≤ 140737488355328) : ∀ (n p : Nat), p ≤ l.length →
    (∀ cs, sumF l n p = .ok cs → rSum l n p 0 = some (cs, ((p + n : Nat) : Int), 0)) ∧ (∀ e q, sumF l n p = .error (e, q) → ∃ cs, rSum l n p 0 = some (cs, q, e))
  | 0, p, hp => ⟨fun cs h => (by cases h; rfl), fun e q h => (by cases h)⟩
  | n + 1, p, hp => by
    rw [rSum, if_pos rfl]
    have s1 := @byte_st l hl p 0 255 hp
    rcases h1 : byteF l p 0 255 with ⟨e1, q1⟩ | c
    · rw [sumF_bad h1]
      refine ⟨fun cs h => (by cases h), fun e q h => ?_⟩
      cases h
      rw [s1.2 _ _ h1]
      simp only [Option.bind_some]
      rw [sum_st_e (byte_er h1)]
      exact ⟨_, rfl⟩
    · obtain ⟨a1, a2, a3, a4⟩ := byte_rd h1 hp
      rw [s1.1 _ h1]
      simp only [Option.bind_some]
      have ih := sum_st hl n (p + 1) a3
      rw [sumF_succ h1, show ((p : Int) + 1) = ((p + 1 : Nat) : Int) from by omega]
      rcases h3 : sumF l n ((p + 1 : Nat) : Int) with ⟨e1, q1⟩ | cs
      · obtain ⟨cs', i2⟩ := ih.2 _ _ h3
        refine ⟨fun ss h => (by cases h), fun e q h => ?_⟩
        cases h
        rw [i2]
        exact ⟨_, rfl⟩
      · rw [ih.1 _ h3]
        refine ⟨fun ss h => ?_, fun e q h => (by cases h)⟩
        cases h
        simp only [Option.bind_some, show p + 1 + n = p + (n + 1) by omega]
        rfl
theorem cmp_st (l : List Int) (c0 c1 c2 c3 w0 w1 w2 w3 a p : Int) : rCmp l [c0, c1, c2, c3] [w0, w1, w2, w3] a 4 0 p 0 = some (if [c0, c1, c2, c3] = [w0, w1, w2, w3] then (p, 0) else (a, 13)) := by
  by_cases h0 : c0 = w0 <;> by_cases h1 : c1 = w1 <;> by_cases h2 : c2 = w2 <;> by_cases h3 : c3 = w3 <;> simp [rCmp, rd, lexpriorref21_Reader_fail.f, h0, h1, h2, h3]
theorem tail_e {α : Type} {l : List Int} {k : Nat} (ss : List α) {p e : Int} (he : e ≠ 0) :
    ((rSum l 4 p e).bind fun cs => (rMid k l p cs).bind fun q => (rEnd l q).bind fun z => if z.2 = 0 then some (ss, (0 : Int), (l.length : Int)) else some ([], z.2, z.1)) = some ([], e, p) := by
  rw [sum_st_e he]
  simp only [Option.bind_some]
  have h1 : rMid k l p ([], p, e) = some (p, e) := by unfold rMid; rw [if_neg he]
  have h2 : rEnd l (p, e) = some (p, e) := by unfold rEnd; rw [if_neg he]
  rw [h1]
  simp only [Option.bind_some]
  rw [h2]
  simp only [Option.bind_some]
  rw [if_neg he]
theorem dec_st {l : List Int} (hb : Bytes l) (hl : l.length ≤ 140737488351232) {k : Nat} (hk : 10 * l.length + 100 ≤ k) : lexpriorref21_Decode.f k l = some (decodeF l) := by
  unfold lexpriorref21_Decode.f
  have s0 := hd_st (l := l) (by omega) 4 0 (Nat.zero_le _)
  rcases h0 : headF l 4 0 with ⟨e, q⟩ | u
  · have hne : e ≠ 0 := head_er h0
    have hd : decodeF l = ([], e, q) := by
      have : stepsF l = .error (e, q) := by unfold stepsF; exact bindE h0
      unfold decodeF
      rw [this]
    have h1 : rHd l 4 0 0 0 = some (q, e) := s0.2 _ _ h0
    rw [h1, hd]
    simp only [Option.bind_some]
    rw [num_st_e hne]
    simp only [Option.bind_some]
    rw [if_pos (by decide), list_st_e hne]
    simp only [Option.bind_some]
    exact tail_e [] hne
  obtain ⟨a1, a2⟩ := s0.1 h0
  have h1 : rHd l 4 0 0 0 = some (4, 0) := a2
  rw [h1]
  simp only [Option.bind_some]
  have e0 : stepsF l = (numF l 4 65536 >>= fun x => listF l x.1.toNat x.2 >>= fun y => sumF l 4 y.2 >>= fun cs => if cs ≠ sum4 l y.2 then .error (13, y.2) else if y.2 + 4 < l.length then .error (9, y.2 + 4) else .ok y.1) := by
    unfold stepsF
    exact bindO h0
  have s1 := @num_st l hb (by omega) k (by omega) 4 65536
  rcases h2 : numF l 4 65536 with ⟨e, q⟩ | ⟨n, p⟩
  · have hne : e ≠ 0 := num_er h2
    have hd : decodeF l = ([], e, q) := by
      unfold decodeF
      rw [e0, h2]
      rfl
    rw [s1.2 _ _ h2, hd]
    simp only [Option.bind_some]
    rw [if_pos (by decide), show (0 : Int).toNat = 0 from rfl, list_st_e hne]
    simp only [Option.bind_some]
    exact tail_e [] hne
  obtain ⟨n, p, rfl, rfl, b1, b2, b3, b4⟩ := num_rd hb (p := 4) (m := 65536) (by decide) h2 (by omega)
  rw [s1.1 _ _ h2]
  simp only [Option.bind_some]
  rw [if_pos (by omega), Int.toNat_natCast]
  have s2 := list_st hb (by omega) (show 40 ≤ k by omega) n p b3
  rcases h3 : listF l n p with ⟨e, q⟩ | ⟨ss, q⟩
  · obtain ⟨ss', i2⟩ := s2.2 _ _ h3
    have hne : e ≠ 0 := list_er h3
    have hd : decodeF l = ([], e, q) := by
      have : stepsF l = .error (e, q) := by
        rw [e0, h2]
        show (listF l (n : Int).toNat p >>= _) = _
        rw [Int.toNat_natCast]
        exact bindE h3
      unfold decodeF
      rw [this]
    rw [i2, hd]
    simp only [Option.bind_some]
    exact tail_e ss' hne
  obtain ⟨q, rfl, c1, c2, c3, c4, c5⟩ := list_rd hb n p ss _ h3 b3
  rw [s2.1 _ _ h3]
  simp only [Option.bind_some]
  have s3 := sum_st (l := l) (by omega) 4 q c2
  have e1 : stepsF l = (sumF l 4 q >>= fun cs => if cs ≠ sum4 l q then .error (13, (q : Int)) else if (q : Int) + 4 < l.length then .error (9, (q : Int) + 4) else .ok ss) := by
    rw [e0, h2]
    show (listF l (n : Int).toNat p >>= _) = _
    rw [Int.toNat_natCast]
    exact bindO h3
  rcases h4 : sumF l 4 q with ⟨e, q'⟩ | cs
  · obtain ⟨cs', i2⟩ := s3.2 _ _ h4
    have hne : e ≠ 0 := sum_er h4
    have hd : decodeF l = ([], e, q') := by
      have : stepsF l = .error (e, q') := by rw [e1]; exact bindE h4
      unfold decodeF
      rw [this]
    rw [i2, hd]
    simp only [Option.bind_some]
    have m1 : rMid k l q (cs', q', e) = some (q', e) := by unfold rMid; rw [if_neg hne]
    have m2 : rEnd l (q', e) = some (q', e) := by unfold rEnd; rw [if_neg hne]
    rw [m1]
    simp only [Option.bind_some]
    rw [m2]
    simp only [Option.bind_some]
    rw [if_neg hne]
  obtain ⟨d1, d2, d3⟩ := sum_rd 4 q cs h4 c2
  rw [s3.1 _ h4]
  simp only [Option.bind_some]
  have e2 : stepsF l = if cs ≠ sum4 l q then .error (13, (q : Int)) else if (q : Int) + 4 < l.length then .error (9, (q : Int) + 4) else .ok ss := by rw [e1]; exact bindO h4
  have hsum : lexpriorref01_Sum.f k (l.take q) = some (crcL (l.take q)) := by
    have hlt : (l.take q).length = q := by rw [List.length_take]; omega
    unfold lexpriorref01_Sum.f crcL crcF
    exact rsum_l0 (l.take q) (fun x hx => hb x (List.mem_of_mem_take hx)) (by omega) (l.take q).length k 0 4294967295 (by decide) (by omega) (by omega) (by omega)
  obtain ⟨s0, s1, s2, s3, rfl⟩ : ∃ s0 s1 s2 s3, cs = [s0, s1, s2, s3] := by
    match cs, d2 with
    | [a, b, c, d], _ => exact ⟨a, b, c, d, rfl⟩
  have m1 : rMid k l q ([s0, s1, s2, s3], ((q + 4 : Nat) : Int), 0) = some (if [s0, s1, s2, s3] = sum4 l q then (((q + 4 : Nat) : Int), 0) else ((q : Int), 13)) := by
    unfold rMid
    rw [if_pos rfl, if_pos ⟨rfl, by omega, by omega⟩, Int.toNat_natCast, hsum]
    simp only [Option.bind_some, lexpriorref21_Little.f]
    rw [if_pos (by rfl), cmp_st]
    rfl
  rw [m1]
  simp only [Option.bind_some]
  by_cases hs : [s0, s1, s2, s3] = sum4 l q
  · rw [if_pos hs]
    rw [if_neg (fun h => h hs)] at e2
    by_cases ht : (q : Int) + 4 < l.length
    · rw [if_pos ht] at e2
      have hd : decodeF l = ([], 9, (q : Int) + 4) := by unfold decodeF; rw [e2]
      have m2 : rEnd l (((q + 4 : Nat) : Int), 0) = some ((q : Int) + 4, 9) := by
        unfold rEnd lexpriorref21_Reader_fail.f
        rw [if_pos rfl, if_pos (by omega), if_pos rfl]
        rfl
      rw [m2, hd]
      rfl
    · rw [if_neg ht] at e2
      have hd : decodeF l = (ss, 0, (l.length : Int)) := by unfold decodeF; rw [e2]
      have m2 : rEnd l (((q + 4 : Nat) : Int), 0) = some (((q + 4 : Nat) : Int), 0) := by
        unfold rEnd
        rw [if_pos rfl, if_neg (by omega)]
      rw [m2, hd]
      rfl
  · rw [if_neg hs]
    rw [if_pos hs] at e2
    have hd : decodeF l = ([], 13, (q : Int)) := by unfold decodeF; rw [e2]
    have m2 : rEnd l ((q : Int), 13) = some ((q : Int), 13) := by unfold rEnd; rw [if_neg (show ¬ (13 : Int) = 0 by decide)]
    rw [m2, hd]
    rfl
theorem WireDecodes : ∀ b, WfBytes b → ∃ k, lexpriorlaw21_WireDecodes.f k b = some true := by
  intro b ⟨hl, hb⟩
  obtain ⟨K1, h1⟩ := copyB b hl
  obtain ⟨K2, h2⟩ := sameB b b (by omega)
  refine ⟨K1 + K2 + 10 * b.length + 8796093400000, ?_⟩
  obtain ⟨k, hk⟩ : ∃ k, k = K1 + K2 + 10 * b.length + 8796093400000 := ⟨_, rfl⟩
  rw [← hk]
  have a1 := h1 k (by omega)
  have a2 := h2 k (by omega)
  simp only [decide_true] at a1 a2
  have hd : wire_Decode.f b = some (decodeF b) := by unfold wire_Decode.f; rw [if_pos hb]
  have hs : lexpriorplain_SameSteps.f k (decodeF b).1 (decodeF b).1 = some true := by
    have hlen : (decodeF b).1.length ≤ 65536 ∧ ∀ s ∈ (decodeF b).1, s.f4.length ≤ 8796093021952 := by
      unfold decodeF
      rcases hx : stepsF b with ⟨e, p⟩ | ss
      · exact ⟨by simp, fun s hs => by simp at hs⟩
      · obtain ⟨hf, _⟩ := steps_rd hb hx
        exact ⟨hf.1, fun s hs => by have := ((stpOk_iff s).1 (List.all_eq_true.1 hf.2 s hs)).1; omega⟩
    unfold lexpriorplain_SameSteps.f
    rw [if_pos rfl]
    exact sameS_l0 (decodeF b).1 (by omega) hlen.2 (decodeF b).1.length k 0 (by omega) (by omega) (by omega)
  unfold lexpriorlaw21_WireDecodes.f
  rw [a1]
  simp only [Option.bind_some]
  rw [hd]
  simp only [Option.bind_some]
  rw [dec_st hb hl (by omega)]
  simp only [Option.bind_some, hs, lexpriorlaw21_num.f, if_true, a2, alive_ k (by omega)]
end Go.Proofs.Ytccoeecladhfmaa.Pure
