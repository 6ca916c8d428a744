-- Written by lexprint.py, a program of this session's own that runs the kit's print with turned rows. Lean checks it.
import Derived.Test.YtmjneidcdaapdaaPx0
import Derived.Test.YtmjneidcdaapdaaLex8
import Derived.Test.YtmjneidcdaapdaaLexB
import Derived.Test.YtmjneidcdaapdaaPx2
namespace Go.Proofs.Ytmjneidcdaapdaa.P
open Go.RowKit Go.Proofs.YtmjneidcdaapdaaW.PrintWords Go.Proofs.YtmjneidcdaapdaaW.PrintLast Go.Proofs.YtmjneidcdaapdaaW.PrintMore
attribute [local go_sem] max2_int min2_int max_two min_two max_three min_three max_four min_four   -- for this text's walks alone
set_option linter.unusedVariables false
set_option linter.unusedSimpArgs false

/-! ### lexer_Join: function 27 -/
def lexer_Join.l (k : Nat) : List (S76) → Nat → ByteArray → Bool → Option (ByteArray × Int × Int)
  | [], i, acc, long => some (if long = true then ((⟨#[]⟩ : ByteArray), 5, (i : Int)) else (acc, 0, (i : Int)))
  | t :: l, i, acc, long => (lexer_Text.f k t.f0 t.f1 t.f2).bind fun r => if r.2 = 0 then (if r.1.size ≤ 1000000000000000 then lexer_Join.l k l (i + 1) (if (long || decide (65536 < acc.size + ((if 0 < i then (⟨#[32]⟩ : ByteArray) ++ r.1 else r.1) : ByteArray).size)) = true then acc else acc ++ (if 0 < i then (⟨#[32]⟩ : ByteArray) ++ r.1 else r.1)) (long || decide (65536 < acc.size + ((if 0 < i then (⟨#[32]⟩ : ByteArray) ++ r.1 else r.1) : ByteArray).size)) else none) else some ((⟨#[]⟩ : ByteArray), r.2, (i : Int))
def lexer_Join.f (k : Nat) (l0 : List (S76)) : Option (ByteArray × Int × Int) := lexer_Join.l k l0 0 ⟨#[]⟩ false
theorem lexer_Join.mono_l (k : Nat) : ∀ l i acc long, LeO (lexer_Join.l k l i acc long) (lexer_Join.l (k + 1) l i acc long)
  | [], i, acc, long => LeO.refl _
  | t :: l, i, acc, long => by
    unfold lexer_Join.l
    refine LeO.bind (lexer_Text.mono _ _ _ _) (fun r => ?_)
    refine LeO.ite (LeO.ite (lexer_Join.mono_l k l _ _ _) (LeO.refl _)) (LeO.refl _)
theorem lexer_Join.mono : ∀ l0 k, LeO (lexer_Join.f k l0) (lexer_Join.f (k + 1) l0) := fun l0 k => lexer_Join.mono_l k l0 0 ⟨#[]⟩ false
theorem bld_on {B b : Nat} {bs : List Value} {w w1 : World} (h : Lib.IsBuilder 98 5 B b bs w) (hb : Below w.heap.size w w1) : Lib.IsBuilder 98 5 B b bs w1 := by
  have key : ∀ p, Lib.BuilderAt 98 5 B b p bs w → Lib.BuilderAt 98 5 B b p bs w1 := by
    rintro p ⟨hB, v, hbk, hown, hne⟩
    exact ⟨hB, v, blk_below hbk hb, pw_own_below hown hb, hne⟩
  exact h.imp (key _) (key _)
theorem lexer_Join.step (k : Nat) (t : S76) (l : List (S76)) (i : Nat) (acc : ByteArray) (long : Bool) (r : ByteArray × Int × Int) (h : lexer_Join.l k (t :: l) i acc long = some r) :
    ∃ s e, lexer_Text.f k t.f0 t.f1 t.f2 = some (s, e) ∧ (e ≠ 0 → r = ((⟨#[]⟩ : ByteArray), e, (i : Int))) ∧ (e = 0 → s.size ≤ 1000000000000000 ∧ ∃ (s' : ByteArray) (lg : Bool), s' = (if 0 < i then (⟨#[32]⟩ : ByteArray) ++ s else s) ∧ lg = (long || decide (65536 < acc.size + s'.size)) ∧ lexer_Join.l k l (i + 1) (if lg = true then acc else acc ++ s') lg = some r) := by
  unfold lexer_Join.l at h
  obtain ⟨⟨s, e⟩, h1, h2⟩ := Option.bind_eq_some_iff.1 h
  refine ⟨s, e, h1, fun he => ?_, fun he => ?_⟩
  · simp only at h2
    rw [if_neg he] at h2
    exact (Option.some.inj h2).symm
  · simp only at h2
    rw [if_pos he] at h2
    by_cases hz : s.size ≤ 1000000000000000
    · rw [if_pos hz] at h2
      exact ⟨hz, _, _, rfl, rfl, h2⟩
    · rw [if_neg hz] at h2; cases h2
theorem str_cells (a b : ByteArray) : Lib.byteCells a.data.toList ++ Lib.strCells b = Lib.byteCells (a ++ b).data.toList := by
  simp [Lib.byteCells, Lib.strCells]
theorem bld_len (B b : Nat) (acc : ByteArray) (w : World) (h : Lib.IsBuilder 98 5 B b (Lib.byteCells acc.data.toList) w) :
    Calls Try.prog 59 #[.pointer (some ⟨b, 0, none⟩)] w fun e w' => e = .returned (.int .i64 (acc.size : Nat)) ∧ w' = w := by
  refine (Try.Builder_Len B b _ w h).mono ?_
  rintro e w' ⟨rfl, hw⟩
  refine ⟨?_, hw⟩
  rw [Lib.byteCells_length, ← Lib.size_eq]
theorem bld_str (B b : Nat) (acc s : ByteArray) (w : World) (h : Lib.IsBuilder 98 5 B b (Lib.byteCells acc.data.toList) w) (hlen : acc.size + s.size ≤ 140737488355328) (hBw : B ≤ w.heap.size) :
    Calls Try.prog 60 #[.pointer (some ⟨b, 0, none⟩), .string s] w fun e w' => e = .returned (.tuple #[.int .i64 s.size, .nilIface]) ∧ (Lib.IsBuilder 98 5 B b (Lib.byteCells (acc ++ s).data.toList) w' ∧ Below B w w') := by
  refine (bld_write B b _ s w h (by rw [Lib.byteCells_length, ← Lib.size_eq]; exact hlen) hBw).mono ?_
  rintro e w' ⟨he, h1, h2⟩
  refine ⟨he, .inr ?_, h2⟩
  rw [← str_cells]
  exact h1
set_option maxHeartbeats 2000000 in
set_option maxRecDepth 100000 in
theorem lexer_Join.calls (k : Nat) (A0 : Option Addr) (c0 : Nat) (l0 : List (S76)) (r1 : ByteArray) (r2 : Int) (r3 : Int) (w : World) (hr0 : Kd.C k76 w A0 l0.length l0) (hc0 : l0.length ≤ c0) (h : lexer_Join.f k l0 = some (r1, r2, r3)) :
    Calls Try.prog 27 #[.slice A0 l0.length c0] w fun e w' => e = .returned (.tuple #[.string r1, .int .i64 r2, .int .i64 r3]) ∧ Below w.heap.size w w' := by
  have hmax := Kd.C_max hr0
  have HR0 := Aside0.mk hr0
  have H := Aside0.mk h
  have hib : Lib.IsBuilder 98 5 w.heap.size w.heap.size [] (w.alloc (.cells #[.pointer none, .slice none 0 0] 98 (0, 0))) :=
    .inl ⟨Nat.le_refl _, .slice none 0 0, blk_new w _, own_nil _ _ _ _, by simp [Value.ownBlock]⟩
  have HIB := Aside0.mk hib
  have HB := Aside0.mk (below_alloc (Below.refl w.heap.size w) (.cells #[.pointer none, .slice none 0 0] 98 (0, 0)))
  clear hr0 h hib
  go_enter Try.func27, Try.ntmps27
  go_wp2_with fail
  go_loopw [13, 6] (fun i lg wr => ∃ (j : Nat) (acc : ByteArray) (long : Bool), j ≤ l0.length ∧ i = .int .i64 j ∧ lg = .bool long ∧ acc.size ≤ 65536 ∧ Aside0 (Lib.IsBuilder 98 5 w.heap.size w.heap.size (Lib.byteCells acc.data.toList) wr) ∧ Aside0 (Below w.heap.size w wr) ∧ Aside0 (lexer_Join.l k (l0.drop j) j acc long = some (r1, r2, r3))) (fun i _ _ => l0.length - (intOf i).toNat)
  case atStart => exact ⟨0, ⟨#[]⟩, false, by omega, rfl, rfl, by decide, HIB, HB, H⟩
  case round =>
    obtain ⟨j, acc, long, hj, rfl, rfl, hacc, HI, HB1, HL⟩ := hrel
    by_cases hlt : j < l0.length
    · obtain ⟨ad, e1, x0, x1, x2⟩ := at_T76 (Kd.C_below HR0.out HB1.out) j (by omega) (by omega)
      subst e1
      simp only [Int.toNat_natCast] at x0 x1 x2
      obtain ⟨t, ht⟩ : ∃ t, t = rd_T76 l0 (j : Int) := ⟨_, rfl⟩
      rw [← ht] at x0 x1 x2
      have hd : l0.drop j = t :: l0.drop (j + 1) := by
        rw [ht, List.drop_eq_getElem_cons hlt]
        unfold rd_T76
        simp [List.getD_eq_getElem?_getD, List.getElem?_eq_getElem hlt]
      have hl := HL.out
      rw [hd] at hl
      obtain ⟨s, e, htx, hbad, hgood⟩ := lexer_Join.step k t _ j acc long _ hl
      have HTX := Aside0.mk htx
      have HBAD := Aside0.mk hbad
      have HGOOD := Aside0.mk hgood
      have HI1 := Aside0.mk (bld_on HI.out (below_alloc (Below.refl wr.heap.size wr) (.cells #[.int .i64 t.f0, .string t.f1, .int .i64 t.f2] 76 (0, 0))))
      have HB2 := Aside0.mk (below_alloc HB1.out (.cells #[.int .i64 t.f0, .string t.f1, .int .i64 t.f2] 76 (0, 0)))
      clear hl htx hbad hgood hd ht HI HL HB1
      go_wp2_with fail
      refine (lexer_Text.calls k t.f0 t.f1 t.f2 s e _ HTX.out).mono ?_
      rintro e' w2 ⟨rfl, hb⟩
      have HI2 := Aside0.mk (bld_on HI1.out hb)
      have HB3 := Aside0.mk (below_step HB2.out hb)
      clear hb HI1 HB2 x0 x1 x2
      by_cases he : e = 0
      · have HG := Aside0.mk (HGOOD.out he)
        subst he
        obtain ⟨hz, s', lg, hs', hlg, hrest⟩ := HG.out
        have HREST := Aside0.mk hrest
        have hz' : s'.size ≤ 1000000000000001 := by
          rw [hs']
          split
          · have : ((⟨#[32]⟩ : ByteArray) ++ s).size = 1 + s.size := by simp [ByteArray.size_append]; rfl
            omega
          · omega
        have cs : 1 + s.size ≤ 9223372036854775807 := by omega
        have cs2 : (9223372036854775807 < 1 + s.size) = False := eq_false (by omega)
        have HSZ := Lib.hid (Lib.size_eq acc)
        clear hrest HG
        by_cases h0 : 0 < j
        · have hs2 : s' = (⟨#[32]⟩ : ByteArray) ++ s := by rw [hs', if_pos h0]
          have HS := Aside0.mk hs2
          have hss := Aside0.mk (show s'.size = 1 + s.size by rw [hs2]; simp [ByteArray.size_append]; rfl)
          have j0 : (0 : Int) < (j : Int) := by omega
          clear hs' hs2
          cases long with
          | true =>
            simp only [Bool.true_or] at hlg
            subst hlg
            go_wp2_with fail
            go_roundw
            case rel => exact ⟨j + 1, acc, true, by omega, by go_num, rfl, hacc, HI2, HB3, ⟨by have := HREST.out; simpa using this⟩⟩
            case measure => simp [intOf]; omega
          | false =>
            simp only [Bool.false_or] at hlg
            go_wp2_with fail
            refine (bld_len w.heap.size w.heap.size _ _ HI2.out).mono ?_
            rintro e' w3 ⟨rfl, hw3⟩
            subst hw3
            by_cases hov : 65536 < acc.size + s'.size
            · have hlg2 : lg = true := by rw [hlg]; simpa using hov
              subst hlg2
              have hov2 : (65536 : Int) < (acc.size : Int) + (1 + (s.size : Int)) := by have := hss.out; omega
              clear hlg hov
              go_wp2_with fail
              go_roundw
              case rel => exact ⟨j + 1, acc, true, by omega, by go_num, rfl, hacc, HI2, HB3, ⟨by have := HREST.out; simpa using this⟩⟩
              case measure => simp [intOf]; omega
            · have hlg2 : lg = false := by rw [hlg]; simpa using hov
              subst hlg2
              have hov2 : ((65536 : Int) < (acc.size : Int) + (1 + (s.size : Int))) = False := eq_false (by have := hss.out; omega)
              have hacc2 := Aside0.mk (by omega : acc.size + s'.size ≤ 65536)
              clear hlg hov
              have hw0 : w.heap.size ≤ w3.heap.size := by have := HB3.out.size; omega
              go_wp2_with fail
              refine (bld_str w.heap.size w.heap.size acc _ _ HI2.out (by have := hacc2.out; rw [HS.out] at this; omega) hw0).mono ?_
              rintro e' w4 ⟨rfl, hi4, hb4⟩
              rw [← HS.out] at hi4
              have HI4 := Aside0.mk hi4
              have HB4 := Aside0.mk (HB3.out.trans hb4)
              clear hi4 hb4
              go_wp2_with fail
              go_roundw
              case rel => exact ⟨j + 1, acc ++ s', false, by omega, by go_num, rfl, by have := hacc2.out; rw [ByteArray.size_append]; omega, HI4, HB4, ⟨by have := HREST.out; simpa using this⟩⟩
              case measure => simp [intOf]; omega
        · have hs2 : s' = s := by rw [hs', if_neg h0]
          have HS := Aside0.mk hs2
          have hss := Aside0.mk (show s'.size = s.size by rw [hs2])
          have j0 : ¬ (0 : Int) < (j : Int) := by omega
          clear hs' hs2
          cases long with
          | true =>
            simp only [Bool.true_or] at hlg
            subst hlg
            go_wp2_with fail
            go_roundw
            case rel => exact ⟨j + 1, acc, true, by omega, by go_num, rfl, hacc, HI2, HB3, ⟨by have := HREST.out; simpa using this⟩⟩
            case measure => simp [intOf]; omega
          | false =>
            simp only [Bool.false_or] at hlg
            go_wp2_with fail
            refine (bld_len w.heap.size w.heap.size _ _ HI2.out).mono ?_
            rintro e' w3 ⟨rfl, hw3⟩
            subst hw3
            by_cases hov : 65536 < acc.size + s'.size
            · have hlg2 : lg = true := by rw [hlg]; simpa using hov
              subst hlg2
              have hov2 : (65536 : Int) < (acc.size : Int) + ((s.size : Int)) := by have := hss.out; omega
              clear hlg hov
              go_wp2_with fail
              go_roundw
              case rel => exact ⟨j + 1, acc, true, by omega, by go_num, rfl, hacc, HI2, HB3, ⟨by have := HREST.out; simpa using this⟩⟩
              case measure => simp [intOf]; omega
            · have hlg2 : lg = false := by rw [hlg]; simpa using hov
              subst hlg2
              have hov2 : ((65536 : Int) < (acc.size : Int) + ((s.size : Int))) = False := eq_false (by have := hss.out; omega)
              have hacc2 := Aside0.mk (by omega : acc.size + s'.size ≤ 65536)
              clear hlg hov
              have hw0 : w.heap.size ≤ w3.heap.size := by have := HB3.out.size; omega
              go_wp2_with fail
              refine (bld_str w.heap.size w.heap.size acc _ _ HI2.out (by have := hacc2.out; rw [HS.out] at this; omega) hw0).mono ?_
              rintro e' w4 ⟨rfl, hi4, hb4⟩
              rw [← HS.out] at hi4
              have HI4 := Aside0.mk hi4
              have HB4 := Aside0.mk (HB3.out.trans hb4)
              clear hi4 hb4
              go_wp2_with fail
              go_roundw
              case rel => exact ⟨j + 1, acc ++ s', false, by omega, by go_num, rfl, by have := hacc2.out; rw [ByteArray.size_append]; omega, HI4, HB4, ⟨by have := HREST.out; simpa using this⟩⟩
              case measure => simp [intOf]; omega
      · have hb := HBAD.out he
        simp only [Prod.mk.injEq] at hb
        have hne : (e != 0) = true := by simpa using he
        have hne2 : (e == 0) = false := by simpa using he
        have HB5 := Aside0.mk hb
        clear he HBAD HGOOD hb HTX
        go_wp2_with fail
        go_ret3
        obtain ⟨rfl, rfl, rfl⟩ := HB5.out
        exact ⟨rfl, HB3.out⟩
    · have hj2 : j = l0.length := by omega
      subst hj2
      have hl := HL.out
      rw [List.drop_length] at hl
      unfold lexer_Join.l at hl
      have hl2 := Option.some.inj hl
      clear hl HL
      cases long with
      | true =>
        simp only [if_true, Prod.mk.injEq] at hl2
        obtain ⟨rfl, rfl, rfl⟩ := hl2
        go_wp2_with fail
        go_ret3
        exact ⟨rfl, HB1.out⟩
      | false =>
        simp only [Bool.false_eq_true, if_false, Prod.mk.injEq] at hl2
        obtain ⟨rfl, rfl, rfl⟩ := hl2
        have hw0 : w.heap.size ≤ wr.heap.size := HB1.out.size
        have hstr := (Try.Builder_String_any w.heap.size w.heap.size acc.data.toList wr HI.out hw0)
        rw [show (⟨acc.data.toList.toArray⟩ : ByteArray) = acc from by simp] at hstr
        go_wp2_with fail
        refine hstr.mono ?_
        rintro e' w4 ⟨rfl, hb4⟩
        have HB4 := Aside0.mk (HB1.out.trans hb4)
        clear hb4 hstr
        go_wp2_with fail
        go_ret3
        exact ⟨rfl, HB4.out⟩


/-! ### lexpriorlaw04_LexerBack: function 9 -/
def lexpriorlaw04_LexerBack.f (k : Nat) (a0 : ByteArray) : Option (Bool) := (lexpriorlaw04_works.f).bind fun t130 => (if t130 = true then ((lexer_Tokens.f a0).bind fun bt131 => (if bt131.2.1 = 0 then ((lexer_Join.f k bt131.1).bind fun bt136 => (if bt136.2.1 = 5 then (if (a0.size : Int) > 32768 then (some (bt136.2.2 == (bt131.1.length : Int))) else (some false)) else ((lexer_Tokens.f bt136.1).bind fun bt139 => (if bt136.2.1 = 0 then (if bt136.2.2 = (bt131.1.length : Int) then (if bt139.2.1 = 0 then (if bt139.2.2 = (bt136.1.size : Int) then ((lexpriorlaw04_sameButAt.f k bt131.1 bt139.1).bind fun t144 => (some t144)) else (some false)) else (some false)) else (some false)) else (some false))))) else (some ((bt131.1.length : Int) == 0)))) else (some false))
theorem lexpriorlaw04_LexerBack.mono : ∀ a0 k, LeO (lexpriorlaw04_LexerBack.f k a0) (lexpriorlaw04_LexerBack.f (k + 1) a0) := by
  intro a0 k
  unfold lexpriorlaw04_LexerBack.f
  repeat' first
      | (with_reducible exact lexer_Join.mono _ _)
      | (with_reducible exact lexpriorlaw04_sameButAt.mono _ _ _)
      | (with_reducible exact LeO.refl _)
      | (with_reducible exact LeO.none _)
      | (with_reducible refine LeO.ite ?_ ?_)
      | (with_reducible refine LeO.bind ?_ (fun _ => ?_))
      | exact lexer_Join.mono _ _
      | exact lexpriorlaw04_sameButAt.mono _ _ _
      | exact LeO.none _
      | refine LeO.ite ?_ ?_
      | refine LeO.bind ?_ (fun _ => ?_)
set_option maxHeartbeats 8000000 in
set_option maxRecDepth 100000 in
theorem lexpriorlaw04_LexerBack.calls (k : Nat) (a0 : ByteArray) (r : Bool) (w : World) (h : lexpriorlaw04_LexerBack.f k a0 = some r) :
    Calls Try.prog 9 #[.string a0] w fun e w' => e = .returned (.bool r) ∧ Below w.heap.size w w' := by
  have HB := Aside0.mk (Below.refl w.heap.size w)
  have H : ((lexpriorlaw04_works.f).bind fun t130 => (if t130 = true then ((lexer_Tokens.f a0).bind fun bt131 => (if bt131.2.1 = 0 then ((lexer_Join.f k bt131.1).bind fun bt136 => (if bt136.2.1 = 5 then (if (a0.size : Int) > 32768 then (some (bt136.2.2 == (bt131.1.length : Int))) else (some false)) else ((lexer_Tokens.f bt136.1).bind fun bt139 => (if bt136.2.1 = 0 then (if bt136.2.2 = (bt131.1.length : Int) then (if bt139.2.1 = 0 then (if bt139.2.2 = (bt136.1.size : Int) then ((lexpriorlaw04_sameButAt.f k bt131.1 bt139.1).bind fun t144 => (some t144)) else (some false)) else (some false)) else (some false)) else (some false))))) else (some ((bt131.1.length : Int) == 0)))) else (some false))) = some r := h
  clear h
  replace H := Option.bind_eq_some_iff.mp H
  obtain ⟨t130, A20, H⟩ := H
  replace H : (if t130 = true then ((lexer_Tokens.f a0).bind fun bt131 => (if bt131.2.1 = 0 then ((lexer_Join.f k bt131.1).bind fun bt136 => (if bt136.2.1 = 5 then (if (a0.size : Int) > 32768 then (some (bt136.2.2 == (bt131.1.length : Int))) else (some false)) else ((lexer_Tokens.f bt136.1).bind fun bt139 => (if bt136.2.1 = 0 then (if bt136.2.2 = (bt131.1.length : Int) then (if bt139.2.1 = 0 then (if bt139.2.2 = (bt136.1.size : Int) then ((lexpriorlaw04_sameButAt.f k bt131.1 bt139.1).bind fun t144 => (some t144)) else (some false)) else (some false)) else (some false)) else (some false))))) else (some ((bt131.1.length : Int) == 0)))) else (some false)) = some r := H
  have A2 := Aside0.mk A20
  clear A20
  by_cases c3 : t130 = true
  · subst c3
    have H1 : ((lexer_Tokens.f a0).bind fun bt131 => (if bt131.2.1 = 0 then ((lexer_Join.f k bt131.1).bind fun bt136 => (if bt136.2.1 = 5 then (if (a0.size : Int) > 32768 then (some (bt136.2.2 == (bt131.1.length : Int))) else (some false)) else ((lexer_Tokens.f bt136.1).bind fun bt139 => (if bt136.2.1 = 0 then (if bt136.2.2 = (bt131.1.length : Int) then (if bt139.2.1 = 0 then (if bt139.2.2 = (bt136.1.size : Int) then ((lexpriorlaw04_sameButAt.f k bt131.1 bt139.1).bind fun t144 => (some t144)) else (some false)) else (some false)) else (some false)) else (some false))))) else (some ((bt131.1.length : Int) == 0)))) = some r := by rw [if_pos rfl] at H; exact H
    clear H
    have H := H1
    clear H1
    replace H := Option.bind_eq_some_iff.mp H
    obtain ⟨⟨t131, t132, t133⟩, A40, H⟩ := H
    replace H : (if t132 = 0 then ((lexer_Join.f k t131).bind fun bt136 => (if bt136.2.1 = 5 then (if (a0.size : Int) > 32768 then (some (bt136.2.2 == (t131.length : Int))) else (some false)) else ((lexer_Tokens.f bt136.1).bind fun bt139 => (if bt136.2.1 = 0 then (if bt136.2.2 = (t131.length : Int) then (if bt139.2.1 = 0 then (if bt139.2.2 = (bt136.1.size : Int) then ((lexpriorlaw04_sameButAt.f k t131 bt139.1).bind fun t144 => (some t144)) else (some false)) else (some false)) else (some false)) else (some false))))) else (some ((t131.length : Int) == 0))) = some r := H
    have A4 := Aside0.mk A40
    clear A40
    by_cases c5 : t132 = 0
    · rw [if_pos c5] at H
      have c5b0 : (t132 == 0) = true := beq_iff_eq.mpr c5
      have c5b1 : (t132 != 0) = false := bne_eq_false_iff_eq.mpr c5
      clear c5
      replace H := Option.bind_eq_some_iff.mp H
      obtain ⟨⟨t136, t137, t138⟩, A60, H⟩ := H
      replace H : (if t137 = 5 then (if (a0.size : Int) > 32768 then (some (t138 == (t131.length : Int))) else (some false)) else ((lexer_Tokens.f t136).bind fun bt139 => (if t137 = 0 then (if t138 = (t131.length : Int) then (if bt139.2.1 = 0 then (if bt139.2.2 = (t136.size : Int) then ((lexpriorlaw04_sameButAt.f k t131 bt139.1).bind fun t144 => (some t144)) else (some false)) else (some false)) else (some false)) else (some false)))) = some r := H
      have A6 := Aside0.mk A60
      clear A60
      by_cases c7 : t137 = 5
      · rw [if_pos c7] at H
        have c7b0 : (t137 == 5) = true := beq_iff_eq.mpr c7
        have c7b1 : (t137 != 5) = false := bne_eq_false_iff_eq.mpr c7
        clear c7
        by_cases c8 : (a0.size : Int) > 32768
        · rw [if_pos c8] at H
          have c8b0 : decide (32768 < (a0.size : Int)) = true := decide_eq_true c8
          have c8b1 : decide (32768 < a0.size) = true := decide_eq_true (by omega)
          clear c8
          obtain rfl := Option.some.inj H
          go_enter Try.func9, Try.ntmps9
          go_wp2_with (first | ((with_reducible refine gate_callee (f := 13) rfl ?_); refine goesL_ (some 12) rfl rfl Try.func13 (by kernel_rfl) rfl #[] rfl (by (try simp only [List.map_toArray, List.map_cons, List.map_nil]); first | done | rfl | (simp only [List.length_drop, List.length_take]; rfl)) ?_; (with_reducible refine (lexpriorlaw04_works.calls  true _ A2.out).mono ?_); rintro e w9 ⟨rfl, hb⟩; refine ⟨_, rfl, ?_⟩; have n0_ := Aside0.mk (below_step (by repeat (first | (with_reducible first | exact HB.out | apply below_alloc | apply pw_below_drewN | apply below_drew1) | exact HB.out)) hb); clear HB; have HB := n0_; clear n0_; (try clear hb); (try clear hb2); (try clear hk); (try clear hi)) | ((with_reducible refine gate_callee (f := 14) rfl ?_); refine goesL_ (some 16) rfl rfl Try.func14 (by kernel_rfl) rfl #[.string a0] rfl (by (try simp only [List.map_toArray, List.map_cons, List.map_nil]); first | done | rfl | (simp only [List.length_drop, List.length_take]; rfl)) ?_; (with_reducible refine (lexer_Tokens.calls a0 t131 t132 t133 _ A4.out).mono ?_); rintro e w10 ⟨v134, rfl, ho0, hb⟩; refine ⟨_, rfl, ?_⟩; have n0_ := Aside0.mk (Kd.R_lower ho0 (below_size (by repeat (first | (with_reducible first | exact HB.out | apply below_alloc | apply pw_below_drewN | apply below_drew1) | exact HB.out)))); have n1_ := Aside0.mk (below_step (by repeat (first | (with_reducible first | exact HB.out | apply below_alloc | apply pw_below_drewN | apply below_drew1) | exact HB.out)) hb); clear HB; have HO135 := n0_; have HB := n1_; clear n0_ n1_; (try clear hb); (try clear hb2); (try clear hk); (try clear hi); (try clear ho0); obtain ⟨Ao11, co11, eo11⟩ := Kd.R_slice HO135.out; subst eo11) | ((with_reducible refine gate_callee (f := 27) rfl ?_); refine goesL_ (some 27) rfl rfl Try.func27 (by kernel_rfl) rfl #[.slice Ao11 t131.length co11] rfl (by (try simp only [List.map_toArray, List.map_cons, List.map_nil]); first | done | rfl | (simp only [List.length_drop, List.length_take]; rfl)) ?_; (with_reducible refine (lexer_Join.calls k _ _ t131 t136 t137 t138 _ ?side1 ?side2 A6.out).mono ?_); (case side1 => repeat (first | exact (Kd.R_reads' HO135.out).2.2 | (with_reducible refine Kd.C_alloc ?_ _) | (with_reducible refine Kd.C_drewN ?_ _) | (with_reducible refine Kd.C_drew ?_))); (case side2 => exact (Kd.R_reads' HO135.out).2.1); rintro e w12 ⟨rfl, hb⟩; refine ⟨_, rfl, ?_⟩; have n0_ := Aside0.mk (Kd.R_below (by (with_reducible repeat (first | apply Kd.R_alloc | apply Kd.R_drewN | apply Kd.R_drew)); exact HO135.out) hb); have n1_ := Aside0.mk (below_step (by repeat (first | (with_reducible first | exact HB.out | apply below_alloc | apply pw_below_drewN | apply below_drew1) | exact HB.out)) hb); clear HO135; clear HB; have HO135 := n0_; have HB := n1_; clear n0_ n1_; (try clear hb); (try clear hb2); (try clear hk); (try clear hi)))
          go_ret
          exact ⟨by first | rfl | (simp [errW_none, errW_some] <;> rfl) | (simp [*, errW_none, errW_some] <;> rfl), by repeat (first | (with_reducible first | exact HB.out | apply below_alloc | apply pw_below_drewN | apply below_drew1) | exact HB.out)⟩
        · rw [if_neg c8] at H
          have c8b0 : decide (32768 < (a0.size : Int)) = false := decide_eq_false c8
          have c8b1 : decide (32768 < a0.size) = false := decide_eq_false (by omega)
          clear c8
          obtain rfl := Option.some.inj H
          go_enter Try.func9, Try.ntmps9
          go_wp2_with (first | ((with_reducible refine gate_callee (f := 13) rfl ?_); refine goesL_ (some 12) rfl rfl Try.func13 (by kernel_rfl) rfl #[] rfl (by (try simp only [List.map_toArray, List.map_cons, List.map_nil]); first | done | rfl | (simp only [List.length_drop, List.length_take]; rfl)) ?_; (with_reducible refine (lexpriorlaw04_works.calls  true _ A2.out).mono ?_); rintro e w13 ⟨rfl, hb⟩; refine ⟨_, rfl, ?_⟩; have n0_ := Aside0.mk (below_step (by repeat (first | (with_reducible first | exact HB.out | apply below_alloc | apply pw_below_drewN | apply below_drew1) | exact HB.out)) hb); clear HB; have HB := n0_; clear n0_; (try clear hb); (try clear hb2); (try clear hk); (try clear hi)) | ((with_reducible refine gate_callee (f := 14) rfl ?_); refine goesL_ (some 16) rfl rfl Try.func14 (by kernel_rfl) rfl #[.string a0] rfl (by (try simp only [List.map_toArray, List.map_cons, List.map_nil]); first | done | rfl | (simp only [List.length_drop, List.length_take]; rfl)) ?_; (with_reducible refine (lexer_Tokens.calls a0 t131 t132 t133 _ A4.out).mono ?_); rintro e w14 ⟨v134, rfl, ho0, hb⟩; refine ⟨_, rfl, ?_⟩; have n0_ := Aside0.mk (Kd.R_lower ho0 (below_size (by repeat (first | (with_reducible first | exact HB.out | apply below_alloc | apply pw_below_drewN | apply below_drew1) | exact HB.out)))); have n1_ := Aside0.mk (below_step (by repeat (first | (with_reducible first | exact HB.out | apply below_alloc | apply pw_below_drewN | apply below_drew1) | exact HB.out)) hb); clear HB; have HO135 := n0_; have HB := n1_; clear n0_ n1_; (try clear hb); (try clear hb2); (try clear hk); (try clear hi); (try clear ho0); obtain ⟨Ao15, co15, eo15⟩ := Kd.R_slice HO135.out; subst eo15) | ((with_reducible refine gate_callee (f := 27) rfl ?_); refine goesL_ (some 27) rfl rfl Try.func27 (by kernel_rfl) rfl #[.slice Ao15 t131.length co15] rfl (by (try simp only [List.map_toArray, List.map_cons, List.map_nil]); first | done | rfl | (simp only [List.length_drop, List.length_take]; rfl)) ?_; (with_reducible refine (lexer_Join.calls k _ _ t131 t136 t137 t138 _ ?side1 ?side2 A6.out).mono ?_); (case side1 => repeat (first | exact (Kd.R_reads' HO135.out).2.2 | (with_reducible refine Kd.C_alloc ?_ _) | (with_reducible refine Kd.C_drewN ?_ _) | (with_reducible refine Kd.C_drew ?_))); (case side2 => exact (Kd.R_reads' HO135.out).2.1); rintro e w16 ⟨rfl, hb⟩; refine ⟨_, rfl, ?_⟩; have n0_ := Aside0.mk (Kd.R_below (by (with_reducible repeat (first | apply Kd.R_alloc | apply Kd.R_drewN | apply Kd.R_drew)); exact HO135.out) hb); have n1_ := Aside0.mk (below_step (by repeat (first | (with_reducible first | exact HB.out | apply below_alloc | apply pw_below_drewN | apply below_drew1) | exact HB.out)) hb); clear HO135; clear HB; have HO135 := n0_; have HB := n1_; clear n0_ n1_; (try clear hb); (try clear hb2); (try clear hk); (try clear hi)))
          go_ret
          exact ⟨by first | rfl | (simp [errW_none, errW_some] <;> rfl) | (simp [*, errW_none, errW_some] <;> rfl), by repeat (first | (with_reducible first | exact HB.out | apply below_alloc | apply pw_below_drewN | apply below_drew1) | exact HB.out)⟩
      · rw [if_neg c7] at H
        have c7b0 : (t137 == 5) = false := beq_eq_false_iff_ne.mpr c7
        have c7b1 : (t137 != 5) = true := bne_iff_ne.mpr c7
        replace H := Option.bind_eq_some_iff.mp H
        obtain ⟨⟨t139, t140, t141⟩, A170, H⟩ := H
        replace H : (if t137 = 0 then (if t138 = (t131.length : Int) then (if t140 = 0 then (if t141 = (t136.size : Int) then ((lexpriorlaw04_sameButAt.f k t131 t139).bind fun t144 => (some t144)) else (some false)) else (some false)) else (some false)) else (some false)) = some r := H
        have A17 := Aside0.mk A170
        clear A170
        by_cases c18 : t137 = 0
        · rw [if_pos c18] at H
          have c18b0 : (t137 == 0) = true := beq_iff_eq.mpr c18
          have c18b1 : (t137 != 0) = false := bne_eq_false_iff_eq.mpr c18
          clear c18
          by_cases c19 : t138 = (t131.length : Int)
          · rw [if_pos c19] at H
            have c19b0 : (t138 == (t131.length : Int)) = true := beq_iff_eq.mpr c19
            have c19b1 : (t138 != (t131.length : Int)) = false := bne_eq_false_iff_eq.mpr c19
            clear c19
            by_cases c20 : t140 = 0
            · rw [if_pos c20] at H
              have c20b0 : (t140 == 0) = true := beq_iff_eq.mpr c20
              have c20b1 : (t140 != 0) = false := bne_eq_false_iff_eq.mpr c20
              clear c20
              by_cases c21 : t141 = (t136.size : Int)
              · rw [if_pos c21] at H
                have c21b0 : (t141 == (t136.size : Int)) = true := beq_iff_eq.mpr c21
                have c21b1 : (t141 != (t136.size : Int)) = false := bne_eq_false_iff_eq.mpr c21
                clear c21
                replace H := Option.bind_eq_some_iff.mp H
                obtain ⟨t144, A220, H⟩ := H
                replace H : (some t144) = some r := H
                have A22 := Aside0.mk A220
                clear A220
                obtain rfl := Option.some.inj H
                go_enter Try.func9, Try.ntmps9
                go_wp2_with (first | ((with_reducible refine gate_callee (f := 13) rfl ?_); refine goesL_ (some 12) rfl rfl Try.func13 (by kernel_rfl) rfl #[] rfl (by (try simp only [List.map_toArray, List.map_cons, List.map_nil]); first | done | rfl | (simp only [List.length_drop, List.length_take]; rfl)) ?_; (with_reducible refine (lexpriorlaw04_works.calls  true _ A2.out).mono ?_); rintro e w23 ⟨rfl, hb⟩; refine ⟨_, rfl, ?_⟩; have n0_ := Aside0.mk (below_step (by repeat (first | (with_reducible first | exact HB.out | apply below_alloc | apply pw_below_drewN | apply below_drew1) | exact HB.out)) hb); clear HB; have HB := n0_; clear n0_; (try clear hb); (try clear hb2); (try clear hk); (try clear hi)) | ((with_reducible refine gate_callee (f := 14) rfl ?_); refine goesL_ (some 16) rfl rfl Try.func14 (by kernel_rfl) rfl #[.string a0] rfl (by (try simp only [List.map_toArray, List.map_cons, List.map_nil]); first | done | rfl | (simp only [List.length_drop, List.length_take]; rfl)) ?_; (with_reducible refine (lexer_Tokens.calls a0 t131 t132 t133 _ A4.out).mono ?_); rintro e w24 ⟨v134, rfl, ho0, hb⟩; refine ⟨_, rfl, ?_⟩; have n0_ := Aside0.mk (Kd.R_lower ho0 (below_size (by repeat (first | (with_reducible first | exact HB.out | apply below_alloc | apply pw_below_drewN | apply below_drew1) | exact HB.out)))); have n1_ := Aside0.mk (below_step (by repeat (first | (with_reducible first | exact HB.out | apply below_alloc | apply pw_below_drewN | apply below_drew1) | exact HB.out)) hb); clear HB; have HO135 := n0_; have HB := n1_; clear n0_ n1_; (try clear hb); (try clear hb2); (try clear hk); (try clear hi); (try clear ho0); obtain ⟨Ao25, co25, eo25⟩ := Kd.R_slice HO135.out; subst eo25) | ((with_reducible refine gate_callee (f := 27) rfl ?_); refine goesL_ (some 27) rfl rfl Try.func27 (by kernel_rfl) rfl #[.slice Ao25 t131.length co25] rfl (by (try simp only [List.map_toArray, List.map_cons, List.map_nil]); first | done | rfl | (simp only [List.length_drop, List.length_take]; rfl)) ?_; (with_reducible refine (lexer_Join.calls k _ _ t131 t136 t137 t138 _ ?side1 ?side2 A6.out).mono ?_); (case side1 => repeat (first | exact (Kd.R_reads' HO135.out).2.2 | (with_reducible refine Kd.C_alloc ?_ _) | (with_reducible refine Kd.C_drewN ?_ _) | (with_reducible refine Kd.C_drew ?_))); (case side2 => exact (Kd.R_reads' HO135.out).2.1); rintro e w26 ⟨rfl, hb⟩; refine ⟨_, rfl, ?_⟩; have n0_ := Aside0.mk (Kd.R_below (by (with_reducible repeat (first | apply Kd.R_alloc | apply Kd.R_drewN | apply Kd.R_drew)); exact HO135.out) hb); have n1_ := Aside0.mk (below_step (by repeat (first | (with_reducible first | exact HB.out | apply below_alloc | apply pw_below_drewN | apply below_drew1) | exact HB.out)) hb); clear HO135; clear HB; have HO135 := n0_; have HB := n1_; clear n0_ n1_; (try clear hb); (try clear hb2); (try clear hk); (try clear hi)) | ((with_reducible refine gate_callee (f := 14) rfl ?_); refine goesL_ (some 44) rfl rfl Try.func14 (by kernel_rfl) rfl #[.string t136] rfl (by (try simp only [List.map_toArray, List.map_cons, List.map_nil]); first | done | rfl | (simp only [List.length_drop, List.length_take]; rfl)) ?_; (with_reducible refine (lexer_Tokens.calls t136 t139 t140 t141 _ A17.out).mono ?_); rintro e w27 ⟨v142, rfl, ho0, hb⟩; refine ⟨_, rfl, ?_⟩; have n0_ := Aside0.mk (Kd.R_elder' (by (with_reducible repeat (first | apply Kd.R_alloc | apply Kd.R_drewN | apply Kd.R_drew)); exact HO135.out) (Kd.R_base ho0) hb); have n1_ := Aside0.mk (Kd.R_lower (Kd.R_new' ho0 (Kd.R_lt (by (with_reducible repeat (first | apply Kd.R_alloc | apply Kd.R_drewN | apply Kd.R_drew)); exact HO135.out))) (below_size (by repeat (first | (with_reducible first | exact HB.out | apply below_alloc | apply pw_below_drewN | apply below_drew1) | exact HB.out)))); have n2_ := Aside0.mk (below_step (by repeat (first | (with_reducible first | exact HB.out | apply below_alloc | apply pw_below_drewN | apply below_drew1) | exact HB.out)) hb); clear HO135; clear HB; have HO135 := n0_; have HO143 := n1_; have HB := n2_; clear n0_ n1_ n2_; (try clear hb); (try clear hb2); (try clear hk); (try clear hi); (try clear ho0); obtain ⟨Ao28, co28, eo28⟩ := Kd.R_slice HO143.out; subst eo28) | (go_at_call 20; (with_reducible refine (lexpriorlaw04_sameButAt.calls k _ _ t131 _ _ t139 t144 _ ?side1 ?side2 ?side3 ?side4 A22.out).mono ?_); (case side1 => repeat (first | exact (Kd.R_reads' HO135.out).2.2 | (with_reducible refine Kd.C_alloc ?_ _) | (with_reducible refine Kd.C_drewN ?_ _) | (with_reducible refine Kd.C_drew ?_))); (case side2 => exact (Kd.R_reads' HO135.out).2.1); (case side3 => repeat (first | exact (Kd.R_reads' HO143.out).2.2 | (with_reducible refine Kd.C_alloc ?_ _) | (with_reducible refine Kd.C_drewN ?_ _) | (with_reducible refine Kd.C_drew ?_))); (case side4 => exact (Kd.R_reads' HO143.out).2.1); rintro e w' ⟨rfl, ⟨nd, rfl⟩⟩))
                go_ret
                exact ⟨by first | rfl | (simp [errW_none, errW_some] <;> rfl) | (simp [*, errW_none, errW_some] <;> rfl), by repeat (first | (with_reducible first | exact HB.out | apply below_alloc | apply pw_below_drewN | apply below_drew1) | exact HB.out)⟩
              · rw [if_neg c21] at H
                have c21b0 : (t141 == (t136.size : Int)) = false := beq_eq_false_iff_ne.mpr c21
                have c21b1 : (t141 != (t136.size : Int)) = true := bne_iff_ne.mpr c21
                obtain rfl := Option.some.inj H
                go_enter Try.func9, Try.ntmps9
                go_wp2_with (first | ((with_reducible refine gate_callee (f := 13) rfl ?_); refine goesL_ (some 12) rfl rfl Try.func13 (by kernel_rfl) rfl #[] rfl (by (try simp only [List.map_toArray, List.map_cons, List.map_nil]); first | done | rfl | (simp only [List.length_drop, List.length_take]; rfl)) ?_; (with_reducible refine (lexpriorlaw04_works.calls  true _ A2.out).mono ?_); rintro e w29 ⟨rfl, hb⟩; refine ⟨_, rfl, ?_⟩; have n0_ := Aside0.mk (below_step (by repeat (first | (with_reducible first | exact HB.out | apply below_alloc | apply pw_below_drewN | apply below_drew1) | exact HB.out)) hb); clear HB; have HB := n0_; clear n0_; (try clear hb); (try clear hb2); (try clear hk); (try clear hi)) | ((with_reducible refine gate_callee (f := 14) rfl ?_); refine goesL_ (some 16) rfl rfl Try.func14 (by kernel_rfl) rfl #[.string a0] rfl (by (try simp only [List.map_toArray, List.map_cons, List.map_nil]); first | done | rfl | (simp only [List.length_drop, List.length_take]; rfl)) ?_; (with_reducible refine (lexer_Tokens.calls a0 t131 t132 t133 _ A4.out).mono ?_); rintro e w30 ⟨v134, rfl, ho0, hb⟩; refine ⟨_, rfl, ?_⟩; have n0_ := Aside0.mk (Kd.R_lower ho0 (below_size (by repeat (first | (with_reducible first | exact HB.out | apply below_alloc | apply pw_below_drewN | apply below_drew1) | exact HB.out)))); have n1_ := Aside0.mk (below_step (by repeat (first | (with_reducible first | exact HB.out | apply below_alloc | apply pw_below_drewN | apply below_drew1) | exact HB.out)) hb); clear HB; have HO135 := n0_; have HB := n1_; clear n0_ n1_; (try clear hb); (try clear hb2); (try clear hk); (try clear hi); (try clear ho0); obtain ⟨Ao31, co31, eo31⟩ := Kd.R_slice HO135.out; subst eo31) | ((with_reducible refine gate_callee (f := 27) rfl ?_); refine goesL_ (some 27) rfl rfl Try.func27 (by kernel_rfl) rfl #[.slice Ao31 t131.length co31] rfl (by (try simp only [List.map_toArray, List.map_cons, List.map_nil]); first | done | rfl | (simp only [List.length_drop, List.length_take]; rfl)) ?_; (with_reducible refine (lexer_Join.calls k _ _ t131 t136 t137 t138 _ ?side1 ?side2 A6.out).mono ?_); (case side1 => repeat (first | exact (Kd.R_reads' HO135.out).2.2 | (with_reducible refine Kd.C_alloc ?_ _) | (with_reducible refine Kd.C_drewN ?_ _) | (with_reducible refine Kd.C_drew ?_))); (case side2 => exact (Kd.R_reads' HO135.out).2.1); rintro e w32 ⟨rfl, hb⟩; refine ⟨_, rfl, ?_⟩; have n0_ := Aside0.mk (Kd.R_below (by (with_reducible repeat (first | apply Kd.R_alloc | apply Kd.R_drewN | apply Kd.R_drew)); exact HO135.out) hb); have n1_ := Aside0.mk (below_step (by repeat (first | (with_reducible first | exact HB.out | apply below_alloc | apply pw_below_drewN | apply below_drew1) | exact HB.out)) hb); clear HO135; clear HB; have HO135 := n0_; have HB := n1_; clear n0_ n1_; (try clear hb); (try clear hb2); (try clear hk); (try clear hi)) | ((with_reducible refine gate_callee (f := 14) rfl ?_); refine goesL_ (some 44) rfl rfl Try.func14 (by kernel_rfl) rfl #[.string t136] rfl (by (try simp only [List.map_toArray, List.map_cons, List.map_nil]); first | done | rfl | (simp only [List.length_drop, List.length_take]; rfl)) ?_; (with_reducible refine (lexer_Tokens.calls t136 t139 t140 t141 _ A17.out).mono ?_); rintro e w33 ⟨v142, rfl, ho0, hb⟩; refine ⟨_, rfl, ?_⟩; have n0_ := Aside0.mk (Kd.R_elder' (by (with_reducible repeat (first | apply Kd.R_alloc | apply Kd.R_drewN | apply Kd.R_drew)); exact HO135.out) (Kd.R_base ho0) hb); have n1_ := Aside0.mk (Kd.R_lower (Kd.R_new' ho0 (Kd.R_lt (by (with_reducible repeat (first | apply Kd.R_alloc | apply Kd.R_drewN | apply Kd.R_drew)); exact HO135.out))) (below_size (by repeat (first | (with_reducible first | exact HB.out | apply below_alloc | apply pw_below_drewN | apply below_drew1) | exact HB.out)))); have n2_ := Aside0.mk (below_step (by repeat (first | (with_reducible first | exact HB.out | apply below_alloc | apply pw_below_drewN | apply below_drew1) | exact HB.out)) hb); clear HO135; clear HB; have HO135 := n0_; have HO143 := n1_; have HB := n2_; clear n0_ n1_ n2_; (try clear hb); (try clear hb2); (try clear hk); (try clear hi); (try clear ho0)))
                go_ret
                exact ⟨by first | rfl | (simp [errW_none, errW_some] <;> rfl) | (simp [*, errW_none, errW_some] <;> rfl), by repeat (first | (with_reducible first | exact HB.out | apply below_alloc | apply pw_below_drewN | apply below_drew1) | exact HB.out)⟩
            · rw [if_neg c20] at H
              have c20b0 : (t140 == 0) = false := beq_eq_false_iff_ne.mpr c20
              have c20b1 : (t140 != 0) = true := bne_iff_ne.mpr c20
              obtain rfl := Option.some.inj H
              go_enter Try.func9, Try.ntmps9
              go_wp2_with (first | ((with_reducible refine gate_callee (f := 13) rfl ?_); refine goesL_ (some 12) rfl rfl Try.func13 (by kernel_rfl) rfl #[] rfl (by (try simp only [List.map_toArray, List.map_cons, List.map_nil]); first | done | rfl | (simp only [List.length_drop, List.length_take]; rfl)) ?_; (with_reducible refine (lexpriorlaw04_works.calls  true _ A2.out).mono ?_); rintro e w34 ⟨rfl, hb⟩; refine ⟨_, rfl, ?_⟩; have n0_ := Aside0.mk (below_step (by repeat (first | (with_reducible first | exact HB.out | apply below_alloc | apply pw_below_drewN | apply below_drew1) | exact HB.out)) hb); clear HB; have HB := n0_; clear n0_; (try clear hb); (try clear hb2); (try clear hk); (try clear hi)) | ((with_reducible refine gate_callee (f := 14) rfl ?_); refine goesL_ (some 16) rfl rfl Try.func14 (by kernel_rfl) rfl #[.string a0] rfl (by (try simp only [List.map_toArray, List.map_cons, List.map_nil]); first | done | rfl | (simp only [List.length_drop, List.length_take]; rfl)) ?_; (with_reducible refine (lexer_Tokens.calls a0 t131 t132 t133 _ A4.out).mono ?_); rintro e w35 ⟨v134, rfl, ho0, hb⟩; refine ⟨_, rfl, ?_⟩; have n0_ := Aside0.mk (Kd.R_lower ho0 (below_size (by repeat (first | (with_reducible first | exact HB.out | apply below_alloc | apply pw_below_drewN | apply below_drew1) | exact HB.out)))); have n1_ := Aside0.mk (below_step (by repeat (first | (with_reducible first | exact HB.out | apply below_alloc | apply pw_below_drewN | apply below_drew1) | exact HB.out)) hb); clear HB; have HO135 := n0_; have HB := n1_; clear n0_ n1_; (try clear hb); (try clear hb2); (try clear hk); (try clear hi); (try clear ho0); obtain ⟨Ao36, co36, eo36⟩ := Kd.R_slice HO135.out; subst eo36) | ((with_reducible refine gate_callee (f := 27) rfl ?_); refine goesL_ (some 27) rfl rfl Try.func27 (by kernel_rfl) rfl #[.slice Ao36 t131.length co36] rfl (by (try simp only [List.map_toArray, List.map_cons, List.map_nil]); first | done | rfl | (simp only [List.length_drop, List.length_take]; rfl)) ?_; (with_reducible refine (lexer_Join.calls k _ _ t131 t136 t137 t138 _ ?side1 ?side2 A6.out).mono ?_); (case side1 => repeat (first | exact (Kd.R_reads' HO135.out).2.2 | (with_reducible refine Kd.C_alloc ?_ _) | (with_reducible refine Kd.C_drewN ?_ _) | (with_reducible refine Kd.C_drew ?_))); (case side2 => exact (Kd.R_reads' HO135.out).2.1); rintro e w37 ⟨rfl, hb⟩; refine ⟨_, rfl, ?_⟩; have n0_ := Aside0.mk (Kd.R_below (by (with_reducible repeat (first | apply Kd.R_alloc | apply Kd.R_drewN | apply Kd.R_drew)); exact HO135.out) hb); have n1_ := Aside0.mk (below_step (by repeat (first | (with_reducible first | exact HB.out | apply below_alloc | apply pw_below_drewN | apply below_drew1) | exact HB.out)) hb); clear HO135; clear HB; have HO135 := n0_; have HB := n1_; clear n0_ n1_; (try clear hb); (try clear hb2); (try clear hk); (try clear hi)) | ((with_reducible refine gate_callee (f := 14) rfl ?_); refine goesL_ (some 44) rfl rfl Try.func14 (by kernel_rfl) rfl #[.string t136] rfl (by (try simp only [List.map_toArray, List.map_cons, List.map_nil]); first | done | rfl | (simp only [List.length_drop, List.length_take]; rfl)) ?_; (with_reducible refine (lexer_Tokens.calls t136 t139 t140 t141 _ A17.out).mono ?_); rintro e w38 ⟨v142, rfl, ho0, hb⟩; refine ⟨_, rfl, ?_⟩; have n0_ := Aside0.mk (Kd.R_elder' (by (with_reducible repeat (first | apply Kd.R_alloc | apply Kd.R_drewN | apply Kd.R_drew)); exact HO135.out) (Kd.R_base ho0) hb); have n1_ := Aside0.mk (Kd.R_lower (Kd.R_new' ho0 (Kd.R_lt (by (with_reducible repeat (first | apply Kd.R_alloc | apply Kd.R_drewN | apply Kd.R_drew)); exact HO135.out))) (below_size (by repeat (first | (with_reducible first | exact HB.out | apply below_alloc | apply pw_below_drewN | apply below_drew1) | exact HB.out)))); have n2_ := Aside0.mk (below_step (by repeat (first | (with_reducible first | exact HB.out | apply below_alloc | apply pw_below_drewN | apply below_drew1) | exact HB.out)) hb); clear HO135; clear HB; have HO135 := n0_; have HO143 := n1_; have HB := n2_; clear n0_ n1_ n2_; (try clear hb); (try clear hb2); (try clear hk); (try clear hi); (try clear ho0)))
              go_ret
              exact ⟨by first | rfl | (simp [errW_none, errW_some] <;> rfl) | (simp [*, errW_none, errW_some] <;> rfl), by repeat (first | (with_reducible first | exact HB.out | apply below_alloc | apply pw_below_drewN | apply below_drew1) | exact HB.out)⟩
          · rw [if_neg c19] at H
            have c19b0 : (t138 == (t131.length : Int)) = false := beq_eq_false_iff_ne.mpr c19
            have c19b1 : (t138 != (t131.length : Int)) = true := bne_iff_ne.mpr c19
            obtain rfl := Option.some.inj H
            go_enter Try.func9, Try.ntmps9
            go_wp2_with (first | ((with_reducible refine gate_callee (f := 13) rfl ?_); refine goesL_ (some 12) rfl rfl Try.func13 (by kernel_rfl) rfl #[] rfl (by (try simp only [List.map_toArray, List.map_cons, List.map_nil]); first | done | rfl | (simp only [List.length_drop, List.length_take]; rfl)) ?_; (with_reducible refine (lexpriorlaw04_works.calls  true _ A2.out).mono ?_); rintro e w39 ⟨rfl, hb⟩; refine ⟨_, rfl, ?_⟩; have n0_ := Aside0.mk (below_step (by repeat (first | (with_reducible first | exact HB.out | apply below_alloc | apply pw_below_drewN | apply below_drew1) | exact HB.out)) hb); clear HB; have HB := n0_; clear n0_; (try clear hb); (try clear hb2); (try clear hk); (try clear hi)) | ((with_reducible refine gate_callee (f := 14) rfl ?_); refine goesL_ (some 16) rfl rfl Try.func14 (by kernel_rfl) rfl #[.string a0] rfl (by (try simp only [List.map_toArray, List.map_cons, List.map_nil]); first | done | rfl | (simp only [List.length_drop, List.length_take]; rfl)) ?_; (with_reducible refine (lexer_Tokens.calls a0 t131 t132 t133 _ A4.out).mono ?_); rintro e w40 ⟨v134, rfl, ho0, hb⟩; refine ⟨_, rfl, ?_⟩; have n0_ := Aside0.mk (Kd.R_lower ho0 (below_size (by repeat (first | (with_reducible first | exact HB.out | apply below_alloc | apply pw_below_drewN | apply below_drew1) | exact HB.out)))); have n1_ := Aside0.mk (below_step (by repeat (first | (with_reducible first | exact HB.out | apply below_alloc | apply pw_below_drewN | apply below_drew1) | exact HB.out)) hb); clear HB; have HO135 := n0_; have HB := n1_; clear n0_ n1_; (try clear hb); (try clear hb2); (try clear hk); (try clear hi); (try clear ho0); obtain ⟨Ao41, co41, eo41⟩ := Kd.R_slice HO135.out; subst eo41) | ((with_reducible refine gate_callee (f := 27) rfl ?_); refine goesL_ (some 27) rfl rfl Try.func27 (by kernel_rfl) rfl #[.slice Ao41 t131.length co41] rfl (by (try simp only [List.map_toArray, List.map_cons, List.map_nil]); first | done | rfl | (simp only [List.length_drop, List.length_take]; rfl)) ?_; (with_reducible refine (lexer_Join.calls k _ _ t131 t136 t137 t138 _ ?side1 ?side2 A6.out).mono ?_); (case side1 => repeat (first | exact (Kd.R_reads' HO135.out).2.2 | (with_reducible refine Kd.C_alloc ?_ _) | (with_reducible refine Kd.C_drewN ?_ _) | (with_reducible refine Kd.C_drew ?_))); (case side2 => exact (Kd.R_reads' HO135.out).2.1); rintro e w42 ⟨rfl, hb⟩; refine ⟨_, rfl, ?_⟩; have n0_ := Aside0.mk (Kd.R_below (by (with_reducible repeat (first | apply Kd.R_alloc | apply Kd.R_drewN | apply Kd.R_drew)); exact HO135.out) hb); have n1_ := Aside0.mk (below_step (by repeat (first | (with_reducible first | exact HB.out | apply below_alloc | apply pw_below_drewN | apply below_drew1) | exact HB.out)) hb); clear HO135; clear HB; have HO135 := n0_; have HB := n1_; clear n0_ n1_; (try clear hb); (try clear hb2); (try clear hk); (try clear hi)) | ((with_reducible refine gate_callee (f := 14) rfl ?_); refine goesL_ (some 44) rfl rfl Try.func14 (by kernel_rfl) rfl #[.string t136] rfl (by (try simp only [List.map_toArray, List.map_cons, List.map_nil]); first | done | rfl | (simp only [List.length_drop, List.length_take]; rfl)) ?_; (with_reducible refine (lexer_Tokens.calls t136 t139 t140 t141 _ A17.out).mono ?_); rintro e w43 ⟨v142, rfl, ho0, hb⟩; refine ⟨_, rfl, ?_⟩; have n0_ := Aside0.mk (Kd.R_elder' (by (with_reducible repeat (first | apply Kd.R_alloc | apply Kd.R_drewN | apply Kd.R_drew)); exact HO135.out) (Kd.R_base ho0) hb); have n1_ := Aside0.mk (Kd.R_lower (Kd.R_new' ho0 (Kd.R_lt (by (with_reducible repeat (first | apply Kd.R_alloc | apply Kd.R_drewN | apply Kd.R_drew)); exact HO135.out))) (below_size (by repeat (first | (with_reducible first | exact HB.out | apply below_alloc | apply pw_below_drewN | apply below_drew1) | exact HB.out)))); have n2_ := Aside0.mk (below_step (by repeat (first | (with_reducible first | exact HB.out | apply below_alloc | apply pw_below_drewN | apply below_drew1) | exact HB.out)) hb); clear HO135; clear HB; have HO135 := n0_; have HO143 := n1_; have HB := n2_; clear n0_ n1_ n2_; (try clear hb); (try clear hb2); (try clear hk); (try clear hi); (try clear ho0)))
            go_ret
            exact ⟨by first | rfl | (simp [errW_none, errW_some] <;> rfl) | (simp [*, errW_none, errW_some] <;> rfl), by repeat (first | (with_reducible first | exact HB.out | apply below_alloc | apply pw_below_drewN | apply below_drew1) | exact HB.out)⟩
        · rw [if_neg c18] at H
          have c18b0 : (t137 == 0) = false := beq_eq_false_iff_ne.mpr c18
          have c18b1 : (t137 != 0) = true := bne_iff_ne.mpr c18
          obtain rfl := Option.some.inj H
          go_enter Try.func9, Try.ntmps9
          go_wp2_with (first | ((with_reducible refine gate_callee (f := 13) rfl ?_); refine goesL_ (some 12) rfl rfl Try.func13 (by kernel_rfl) rfl #[] rfl (by (try simp only [List.map_toArray, List.map_cons, List.map_nil]); first | done | rfl | (simp only [List.length_drop, List.length_take]; rfl)) ?_; (with_reducible refine (lexpriorlaw04_works.calls  true _ A2.out).mono ?_); rintro e w44 ⟨rfl, hb⟩; refine ⟨_, rfl, ?_⟩; have n0_ := Aside0.mk (below_step (by repeat (first | (with_reducible first | exact HB.out | apply below_alloc | apply pw_below_drewN | apply below_drew1) | exact HB.out)) hb); clear HB; have HB := n0_; clear n0_; (try clear hb); (try clear hb2); (try clear hk); (try clear hi)) | ((with_reducible refine gate_callee (f := 14) rfl ?_); refine goesL_ (some 16) rfl rfl Try.func14 (by kernel_rfl) rfl #[.string a0] rfl (by (try simp only [List.map_toArray, List.map_cons, List.map_nil]); first | done | rfl | (simp only [List.length_drop, List.length_take]; rfl)) ?_; (with_reducible refine (lexer_Tokens.calls a0 t131 t132 t133 _ A4.out).mono ?_); rintro e w45 ⟨v134, rfl, ho0, hb⟩; refine ⟨_, rfl, ?_⟩; have n0_ := Aside0.mk (Kd.R_lower ho0 (below_size (by repeat (first | (with_reducible first | exact HB.out | apply below_alloc | apply pw_below_drewN | apply below_drew1) | exact HB.out)))); have n1_ := Aside0.mk (below_step (by repeat (first | (with_reducible first | exact HB.out | apply below_alloc | apply pw_below_drewN | apply below_drew1) | exact HB.out)) hb); clear HB; have HO135 := n0_; have HB := n1_; clear n0_ n1_; (try clear hb); (try clear hb2); (try clear hk); (try clear hi); (try clear ho0); obtain ⟨Ao46, co46, eo46⟩ := Kd.R_slice HO135.out; subst eo46) | ((with_reducible refine gate_callee (f := 27) rfl ?_); refine goesL_ (some 27) rfl rfl Try.func27 (by kernel_rfl) rfl #[.slice Ao46 t131.length co46] rfl (by (try simp only [List.map_toArray, List.map_cons, List.map_nil]); first | done | rfl | (simp only [List.length_drop, List.length_take]; rfl)) ?_; (with_reducible refine (lexer_Join.calls k _ _ t131 t136 t137 t138 _ ?side1 ?side2 A6.out).mono ?_); (case side1 => repeat (first | exact (Kd.R_reads' HO135.out).2.2 | (with_reducible refine Kd.C_alloc ?_ _) | (with_reducible refine Kd.C_drewN ?_ _) | (with_reducible refine Kd.C_drew ?_))); (case side2 => exact (Kd.R_reads' HO135.out).2.1); rintro e w47 ⟨rfl, hb⟩; refine ⟨_, rfl, ?_⟩; have n0_ := Aside0.mk (Kd.R_below (by (with_reducible repeat (first | apply Kd.R_alloc | apply Kd.R_drewN | apply Kd.R_drew)); exact HO135.out) hb); have n1_ := Aside0.mk (below_step (by repeat (first | (with_reducible first | exact HB.out | apply below_alloc | apply pw_below_drewN | apply below_drew1) | exact HB.out)) hb); clear HO135; clear HB; have HO135 := n0_; have HB := n1_; clear n0_ n1_; (try clear hb); (try clear hb2); (try clear hk); (try clear hi)) | ((with_reducible refine gate_callee (f := 14) rfl ?_); refine goesL_ (some 44) rfl rfl Try.func14 (by kernel_rfl) rfl #[.string t136] rfl (by (try simp only [List.map_toArray, List.map_cons, List.map_nil]); first | done | rfl | (simp only [List.length_drop, List.length_take]; rfl)) ?_; (with_reducible refine (lexer_Tokens.calls t136 t139 t140 t141 _ A17.out).mono ?_); rintro e w48 ⟨v142, rfl, ho0, hb⟩; refine ⟨_, rfl, ?_⟩; have n0_ := Aside0.mk (Kd.R_elder' (by (with_reducible repeat (first | apply Kd.R_alloc | apply Kd.R_drewN | apply Kd.R_drew)); exact HO135.out) (Kd.R_base ho0) hb); have n1_ := Aside0.mk (Kd.R_lower (Kd.R_new' ho0 (Kd.R_lt (by (with_reducible repeat (first | apply Kd.R_alloc | apply Kd.R_drewN | apply Kd.R_drew)); exact HO135.out))) (below_size (by repeat (first | (with_reducible first | exact HB.out | apply below_alloc | apply pw_below_drewN | apply below_drew1) | exact HB.out)))); have n2_ := Aside0.mk (below_step (by repeat (first | (with_reducible first | exact HB.out | apply below_alloc | apply pw_below_drewN | apply below_drew1) | exact HB.out)) hb); clear HO135; clear HB; have HO135 := n0_; have HO143 := n1_; have HB := n2_; clear n0_ n1_ n2_; (try clear hb); (try clear hb2); (try clear hk); (try clear hi); (try clear ho0)))
          go_ret
          exact ⟨by first | rfl | (simp [errW_none, errW_some] <;> rfl) | (simp [*, errW_none, errW_some] <;> rfl), by repeat (first | (with_reducible first | exact HB.out | apply below_alloc | apply pw_below_drewN | apply below_drew1) | exact HB.out)⟩
    · rw [if_neg c5] at H
      have c5b0 : (t132 == 0) = false := beq_eq_false_iff_ne.mpr c5
      have c5b1 : (t132 != 0) = true := bne_iff_ne.mpr c5
      obtain rfl := Option.some.inj H
      go_enter Try.func9, Try.ntmps9
      go_wp2_with (first | ((with_reducible refine gate_callee (f := 13) rfl ?_); refine goesL_ (some 12) rfl rfl Try.func13 (by kernel_rfl) rfl #[] rfl (by (try simp only [List.map_toArray, List.map_cons, List.map_nil]); first | done | rfl | (simp only [List.length_drop, List.length_take]; rfl)) ?_; (with_reducible refine (lexpriorlaw04_works.calls  true _ A2.out).mono ?_); rintro e w49 ⟨rfl, hb⟩; refine ⟨_, rfl, ?_⟩; have n0_ := Aside0.mk (below_step (by repeat (first | (with_reducible first | exact HB.out | apply below_alloc | apply pw_below_drewN | apply below_drew1) | exact HB.out)) hb); clear HB; have HB := n0_; clear n0_; (try clear hb); (try clear hb2); (try clear hk); (try clear hi)) | ((with_reducible refine gate_callee (f := 14) rfl ?_); refine goesL_ (some 16) rfl rfl Try.func14 (by kernel_rfl) rfl #[.string a0] rfl (by (try simp only [List.map_toArray, List.map_cons, List.map_nil]); first | done | rfl | (simp only [List.length_drop, List.length_take]; rfl)) ?_; (with_reducible refine (lexer_Tokens.calls a0 t131 t132 t133 _ A4.out).mono ?_); rintro e w50 ⟨v134, rfl, ho0, hb⟩; refine ⟨_, rfl, ?_⟩; have n0_ := Aside0.mk (Kd.R_lower ho0 (below_size (by repeat (first | (with_reducible first | exact HB.out | apply below_alloc | apply pw_below_drewN | apply below_drew1) | exact HB.out)))); have n1_ := Aside0.mk (below_step (by repeat (first | (with_reducible first | exact HB.out | apply below_alloc | apply pw_below_drewN | apply below_drew1) | exact HB.out)) hb); clear HB; have HO135 := n0_; have HB := n1_; clear n0_ n1_; (try clear hb); (try clear hb2); (try clear hk); (try clear hi); (try clear ho0); obtain ⟨Ao51, co51, eo51⟩ := Kd.R_slice HO135.out; subst eo51))
      go_ret
      exact ⟨by first | rfl | (simp [errW_none, errW_some] <;> rfl) | (simp [*, errW_none, errW_some] <;> rfl), by repeat (first | (with_reducible first | exact HB.out | apply below_alloc | apply pw_below_drewN | apply below_drew1) | exact HB.out)⟩
  · replace c3 := Bool.eq_false_iff.mpr c3
    subst c3
    have H1 : (some false) = some r := by rw [if_neg (show ¬ (false = true) by decide)] at H; exact H
    clear H
    have H := H1
    clear H1
    obtain rfl := Option.some.inj H
    go_enter Try.func9, Try.ntmps9
    go_wp2_with (first | ((with_reducible refine gate_callee (f := 13) rfl ?_); refine goesL_ (some 12) rfl rfl Try.func13 (by kernel_rfl) rfl #[] rfl (by (try simp only [List.map_toArray, List.map_cons, List.map_nil]); first | done | rfl | (simp only [List.length_drop, List.length_take]; rfl)) ?_; (with_reducible refine (lexpriorlaw04_works.calls  false _ A2.out).mono ?_); rintro e w52 ⟨rfl, hb⟩; refine ⟨_, rfl, ?_⟩; have n0_ := Aside0.mk (below_step (by repeat (first | (with_reducible first | exact HB.out | apply below_alloc | apply pw_below_drewN | apply below_drew1) | exact HB.out)) hb); clear HB; have HB := n0_; clear n0_; (try clear hb); (try clear hb2); (try clear hk); (try clear hi)))
    go_ret
    exact ⟨by first | rfl | (simp [errW_none, errW_some] <;> rfl) | (simp [*, errW_none, errW_some] <;> rfl), by repeat (first | (with_reducible first | exact HB.out | apply below_alloc | apply pw_below_drewN | apply below_drew1) | exact HB.out)⟩

/-- THE ONE PURE STATEMENT of lexpriorlaw04_LexerBack: yours. -/
def lexpriorlaw04_LexerBack.Pure : Prop := ∀ (a0 : ByteArray), a0.size ≤ 140737488351232 → ∃ k, lexpriorlaw04_LexerBack.f k a0 = some true
theorem lexpriorlaw04_LexerBack.walk (P : lexpriorlaw04_LexerBack.Pure) (a0 : ByteArray) (w : World) (w0 : a0.size ≤ 140737488351232) :
    Calls Try.prog 9 #[.string a0] w fun e w' => e = .returned (.bool true) ∧ Below w.heap.size w w' := by
  obtain ⟨k, h⟩ := P a0 w0
  refine (lexpriorlaw04_LexerBack.calls k a0 true w h).mono ?_
  rintro e w' ⟨rfl, hd⟩
  exact ⟨rfl, hd⟩

end Go.Proofs.Ytmjneidcdaapdaa.P
