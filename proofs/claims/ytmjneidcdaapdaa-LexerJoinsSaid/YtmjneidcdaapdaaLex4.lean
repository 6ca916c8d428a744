/- The lexer's scanner: the walks of numbers, remarks, quotes. -/
import Derived.Test.YtmjneidcdaapdaaLex3
namespace Go.Proofs.Ytmjneidcdaapdaa.P
open Go.RowKit Go.Proofs.YtmjneidcdaapdaaW.PrintWords Go.Proofs.YtmjneidcdaapdaaW.PrintLast Go.Proofs.YtmjneidcdaapdaaW.PrintMore
set_option linter.unusedVariables false
set_option linter.unusedSimpArgs false

theorem quiet_w' {P : Program} {f : FuncId} {args : Array Value} {w : World} {n : Nat} {v : Value} (h : Calls P f args (w.drewN n) fun e w' => e = .returned v ∧ w.drewN n = w') :
    Calls P f args (w.drewN n) fun e w'' => e = .returned v ∧ ∃ m, w'' = w.drewN m :=
  h.mono fun _ _ ⟨he, hw⟩ => ⟨he, n, hw.symm⟩
theorem numQ_le (s : ByteArray) {p : Nat} (hp : p ≤ s.size) : p ≤ numQ s p ∧ numQ s p ≤ s.size := by
  obtain ⟨l1, l2⟩ := runI_le s gD hp
  unfold numQ
  split
  · obtain ⟨l3, l4⟩ := runI_le s gD (p := runI s gD p + 1) (by omega)
    omega
  · omega
theorem num_put {w0 w : World} {g : Nat} {s : ByteArray} {p : Nat} {T : List Tk} {R : List ByteArray} (hs : s.size ≤ 65536) (hp : p ≤ s.size) (hT : T.length ≤ 65536) {q : Nat} (hq : q = numQ s p) (h : Sc w0 w g s p T R 0 0) :
    Calls Try.prog 126 #[.pointer (some ⟨g, 0, none⟩), .int .i64 3, .int .i64 q] w (NP w0 g s (putP s p 3 (numQ s p) T R)) := by
  subst hq
  obtain ⟨l1, l2⟩ := numQ_le s hp
  exact put_any 3 _ hs l1 l2 hT h
theorem dgD : ∀ args W, (callFunc 128 args).run Try.prog W = .ok (.enter 128 args) W := enters_ Try.func128 (by kernel_rfl) rfl
theorem dgN : ∀ args W, (callFunc 101 args).run Try.prog W = .ok (.enter 101 args) W := enters_ Try.func101 (by kernel_rfl) rfl
theorem dgV : ∀ args W, (callFunc 103 args).run Try.prog W = .ok (.enter 103 args) W := enters_ Try.func103 (by kernel_rfl) rfl
set_option maxHeartbeats 1000000 in
set_option maxRecDepth 100000 in
theorem number_any {w0 w : World} {g : Nat} {s : ByteArray} {p : Nat} {T : List Tk} {R : List ByteArray} (hs : s.size ≤ 65536) (hp : p ≤ s.size) (hT : T.length ≤ 65536) (h : Sc w0 w g s p T R 0 0) :
    Calls Try.prog 104 #[.pointer (some ⟨g, 0, none⟩)] w (NP w0 g s (numP s p T R)) := by
  obtain ⟨tv, rv, h⟩ := h
  obtain ⟨c0, c1, c2, c3, c4, c5, fz⟩ := h.cells
  have H := Aside0.mk h
  have HD := Aside0.mk (fun w => dated_any s p w hp hs)
  have i1 : (0 : Int) ≤ (p : Int) := by omega
  have i2 : (p : Int) ≤ (s.size : Int) := by omega
  clear fz h c2 c3 c4 c5
  rcases hd : dateI s p with _ | _
  · have HR : Hid (numP s p T R = putP s p 3 (numQ s p) T R) := Lib.hid (by unfold numP; rw [hd]; rfl)
    simp only [hd] at HD
    clear hd
    go_enter Try.func104, Try.ntmps104
    go_wp2_with fail
    go_quiet ((go_at_call 127; exact quiet_w' (HD.out _)))
    have H1 := Aside0.mk (H.out.drewN nq)
    clear H c0 c1
    generalize w.drewN nq = w1 at H1 ⊢
    obtain ⟨c0, c1, _⟩ := H1.out.cells
    go_wp2_with fail
    refine (run_any g s p 128 gD w1 c0 hp hs lowD dgD digit_any).mono ?_
    rintro e w2 ⟨rfl, hb⟩
    have H2 := Aside0.mk (H1.out.on hb)
    obtain ⟨l1, l2⟩ := runI_le s gD hp
    clear hb c0 c1 H1
    obtain ⟨c0, c1, _⟩ := H2.out.cells
    obtain ⟨q, hq⟩ : ∃ q, q = runI s gD p := ⟨_, rfl⟩
    rw [← hq] at l1 l2 ⊢
    have HQ := Lib.hid hq
    clear hq
    have fin : ∀ q2, q2 = numQ s p → Calls Try.prog 126 #[.pointer (some ⟨g, 0, none⟩), .int .i64 3, .int .i64 (q2 : Nat)] w2 (NP w0 g s (putP s p 3 (numQ s p) T R)) := fun q2 h => num_put hs hp hT h ⟨_, _, H2.out⟩
    have FIN := Aside0.mk fin
    clear fin
    have hno : ∀ h : ¬ ((q + 1 < s.size ∧ bt s (q : Nat) = 46) ∧ clsI (bt s ((q + 1 : Nat) : Int)) = 4), q = numQ s p := fun h => by unfold numQ; rw [← HQ.out, if_neg h]
    have HNO := Aside0.mk hno
    clear hno
    by_cases hlt : q + 1 < s.size
    · have b1 := bt_get s q (by omega)
      have b2 := bt_get s (q + 1) hlt
      have tq : (q : Int) + 1 < s.size := by omega
      rcases hb1 : (((s[q]'(by omega)).toNat : Int) == 46) with _ | _
      · have e1 : q = numQ s p := HNO.out (fun h => by rw [b1] at h; have := h.1.2; rw [this] at hb1; simp at hb1)
        have E1 := Lib.hid e1
        clear e1 b1 b2
        go_wp2_with fail
        refine (FIN.out q E1.out).mono ?_
        rintro e w3 ⟨rfl, hE⟩
        go_wp2_with fail
        go_ret
        rw [HR.out]
        exact ⟨rfl, hE⟩
      · rcases hb2 : (clsI ((s[q + 1]'hlt).toNat : Int) == 4) with _ | _
        · have e1 : q = numQ s p := HNO.out (fun h => by rw [b2] at h; have := h.2; rw [this] at hb2; simp at hb2)
          have E1 := Lib.hid e1
          have HB2 := Lib.hid hb2
          clear e1 b1 b2 hb2
          go_wp2_with fail
          refine (classOf_any _ _).mono ?_
          rintro e w' ⟨rfl, rfl⟩
          have hb2 := HB2.out
          go_wp2_with fail
          refine (FIN.out q E1.out).mono ?_
          rintro e w3 ⟨rfl, hE⟩
          go_wp2_with fail
          go_ret
          rw [HR.out]
          exact ⟨rfl, hE⟩
        · have e1 : runI s gD (q + 1) = numQ s p := by
            unfold numQ
            rw [← HQ.out, if_pos ⟨⟨hlt, by rw [b1]; exact beq_iff_eq.1 hb1⟩, by rw [b2]; exact beq_iff_eq.1 hb2⟩]
          have E1 := Lib.hid e1
          have HB2 := Lib.hid hb2
          clear e1 b1 b2 hb2
          go_wp2_with fail
          refine (classOf_any _ _).mono ?_
          rintro e w' ⟨rfl, rfl⟩
          have hb2 := HB2.out
          go_wp2_with fail
          have hr := run_any g s (q + 1) 128 gD w2 c0 (by omega) hs lowD dgD digit_any
          rw [show ((q + 1 : Nat) : Int) = (q : Int) + 1 by omega] at hr
          refine hr.mono ?_
          clear hr
          rintro e w3 ⟨rfl, hb⟩
          have H3 := Aside0.mk (H2.out.on hb)
          clear hb c0 c1
          go_wp2_with fail
          refine (num_put hs hp hT E1.out ⟨_, _, H3.out⟩).mono ?_
          rintro e w4 ⟨rfl, hE⟩
          go_wp2_with fail
          go_ret
          rw [HR.out]
          exact ⟨rfl, hE⟩
    · have e1 : q = numQ s p := HNO.out (fun h => hlt h.1.1)
      have E1 := Lib.hid e1
      have tq : ¬ (q : Int) + 1 < s.size := by omega
      clear e1
      go_wp2_with fail
      refine (FIN.out q E1.out).mono ?_
      rintro e w3 ⟨rfl, hE⟩
      go_wp2_with fail
      go_ret
      rw [HR.out]
      exact ⟨rfl, hE⟩
  · have HR : Hid (numP s p T R = putP s p 4 (p + 10) T R) := Lib.hid (by unfold numP; rw [hd]; rfl)
    have h10 : p + 10 ≤ s.size := by unfold dateI at hd; simp at hd; exact hd.1
    simp only [hd] at HD
    clear hd
    go_enter Try.func104, Try.ntmps104
    go_wp2_with fail
    go_quiet ((go_at_call 127; exact quiet_w' (HD.out _)))
    have H1 := Aside0.mk (H.out.drewN nq)
    clear H c0 c1
    generalize w.drewN nq = w1 at H1 ⊢
    obtain ⟨c0, c1, _⟩ := H1.out.cells
    go_wp2_with fail
    have ec : (p : Int) + 10 = ((p + 10 : Nat) : Int) := by omega
    rw [ec]
    refine (put_any 4 (p + 10) hs (by omega) h10 hT ⟨_, _, H1.out⟩).mono ?_
    rintro e w3 ⟨rfl, hE⟩
    clear ec
    go_wp2_with fail
    go_ret
    rw [HR.out]
    exact ⟨rfl, hE⟩
end Go.Proofs.Ytmjneidcdaapdaa.P
