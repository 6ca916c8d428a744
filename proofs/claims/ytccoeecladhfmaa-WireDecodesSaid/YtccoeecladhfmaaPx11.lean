-- Written by lexprint.py, a program of this session's own that runs the kit's print with turned rows. Lean checks it.
import Derived.Test.YtccoeecladhfmaaPx0
import Derived.Test.YtccoeecladhfmaaPx5
import Derived.Test.YtccoeecladhfmaaPx6
import Derived.Test.YtccoeecladhfmaaPx8
import Derived.Test.YtccoeecladhfmaaPx9
import Derived.Test.YtccoeecladhfmaaPx10
namespace Go.Proofs.Ytccoeecladhfmaa.P
open Go.RowKit Go.Proofs.YtccoeecladhfmaaW.PrintWords Go.Proofs.YtccoeecladhfmaaW.PrintLast Go.Proofs.YtccoeecladhfmaaW.PrintMore
attribute [local go_sem] max2_int min2_int max_two min_two max_three min_three max_four min_four   -- for this text's walks alone
set_option linter.unusedVariables false
set_option linter.unusedSimpArgs false

/-! ### lexpriorref21_Decode: function 19 -/
def rHd (l : List Int) : Nat → Nat → Int → Int → Option (Int × Int)
  | 0, _, p, e => some (p, e)
  | n + 1, i, p, e => (lexpriorref21_Reader_byte1.f l p e (wrHd i) (wrHd i)).bind fun r => rHd l n (i + 1) r.2.1 r.2.2
def rCho (k : Nat) (l : List Int) : Nat → Int → Int → Option (List S54 × Int × Int)
  | 0, p, e => some ([], p, e)
  | n + 1, p, e => if e = 0 then (lexpriorref21_Reader_num.f k l p e 16).bind fun a => (lexpriorref21_Reader_num.f k l a.2.1 a.2.2 4096).bind fun b => (rCho k l n b.2.1 b.2.2).bind fun c => some (⟨wrap64 (a.1 - 1), wrap64 (b.1 - 1)⟩ :: c.1, c.2.1, c.2.2) else some ([], p, e)
def rStep (k : Nat) (l : List Int) (p e : Int) : Option (S52 × Int × Int) :=
  (lexpriorref21_Reader_byte1.f l p e 1 4).bind fun t => (lexpriorref21_Reader_num.f k l t.2.1 t.2.2 4095).bind fun i => (lexpriorref21_Reader_byte1.f l i.2.1 i.2.2 1 5).bind fun h => (lexpriorref21_Reader_num.f k l h.2.1 h.2.2 4096).bind fun r =>
    (lexpriorref21_Reader_num.f k l r.2.1 r.2.2 4096).bind fun n => if n.1 ≤ 4096 then (rCho k l n.1.toNat n.2.1 n.2.2).bind fun c => some (⟨t.1, i.1, h.1, wrap64 (r.1 - 1), c.1⟩, c.2.1, c.2.2) else none
def rList (k : Nat) (l : List Int) : Nat → Int → Int → Option (List S52 × Int × Int)
  | 0, p, e => some ([], p, e)
  | n + 1, p, e => if e = 0 then (rStep k l p e).bind fun s => (rList k l n s.2.1 s.2.2).bind fun c => some (s.1 :: c.1, c.2.1, c.2.2) else some ([], p, e)
def rSum (l : List Int) : Nat → Int → Int → Option (List Int × Int × Int)
  | 0, p, e => some ([], p, e)
  | n + 1, p, e => if e = 0 then (lexpriorref21_Reader_byte1.f l p e 0 255).bind fun b => (rSum l n b.2.1 b.2.2).bind fun c => some (b.1 :: c.1, c.2.1, c.2.2) else some ([], p, e)
def rCmp (l cs ws : List Int) (a : Int) : Nat → Nat → Int → Int → Option (Int × Int)
  | 0, _, p, e => some (p, e)
  | n + 1, i, p, e => if rd cs i = rd ws i then rCmp l cs ws a n (i + 1) p e else (lexpriorref21_Reader_fail.f l p e 13 a).bind fun r => rCmp l cs ws a n (i + 1) r.1 r.2
def rMid (k : Nat) (l : List Int) (a : Int) (cs : List Int × Int × Int) : Option (Int × Int) :=
  if cs.2.2 = 0 then (if cs.1.length = 4 ∧ 0 ≤ a ∧ a ≤ l.length then (lexpriorref01_Sum.f k (l.take a.toNat)).bind fun s => (lexpriorref21_Little.f s).bind fun ws => if ws.length = 4 then rCmp l cs.1 ws a 4 0 cs.2.1 cs.2.2 else none else none) else some cs.2
def rEnd (l : List Int) (q : Int × Int) : Option (Int × Int) := if q.2 = 0 then (if q.1 < l.length then lexpriorref21_Reader_fail.f l q.1 q.2 9 q.1 else some q) else some q
def lexpriorref21_Decode.f (k : Nat) (l : List Int) : Option (List S52 × Int × Int) :=
  (rHd l 4 0 0 0).bind fun h => (lexpriorref21_Reader_num.f k l h.1 h.2 65536).bind fun n => if n.1 ≤ 65536 then (rList k l n.1.toNat n.2.1 n.2.2).bind fun ss => (rSum l 4 ss.2.1 ss.2.2).bind fun cs =>
    (rMid k l ss.2.1 cs).bind fun q => (rEnd l q).bind fun z => if z.2 = 0 then some (ss.1, 0, (l.length : Int)) else some ([], z.2, z.1) else none
theorem rCho_mono (k : Nat) (l : List Int) : ∀ n p e, LeO (rCho k l n p e) (rCho (k + 1) l n p e)
  | 0, _, _ => LeO.refl _
  | n + 1, p, e => LeO.ite (LeO.bind (lexpriorref21_Reader_num.mono _ _ _ _ _) fun _ => LeO.bind (lexpriorref21_Reader_num.mono _ _ _ _ _) fun _ => LeO.bind (rCho_mono k l n _ _) fun _ => LeO.refl _) (LeO.refl _)
theorem rStep_mono (k : Nat) (l : List Int) (p e : Int) : LeO (rStep k l p e) (rStep (k + 1) l p e) :=
  LeO.bind (LeO.refl _) fun _ => LeO.bind (lexpriorref21_Reader_num.mono _ _ _ _ _) fun _ => LeO.bind (LeO.refl _) fun _ => LeO.bind (lexpriorref21_Reader_num.mono _ _ _ _ _) fun _ => LeO.bind (lexpriorref21_Reader_num.mono _ _ _ _ _) fun _ =>
    LeO.ite (LeO.bind (rCho_mono k l _ _ _) fun _ => LeO.refl _) (LeO.refl _)
theorem rList_mono (k : Nat) (l : List Int) : ∀ n p e, LeO (rList k l n p e) (rList (k + 1) l n p e)
  | 0, _, _ => LeO.refl _
  | n + 1, p, e => LeO.ite (LeO.bind (rStep_mono k l _ _) fun _ => LeO.bind (rList_mono k l n _ _) fun _ => LeO.refl _) (LeO.refl _)
theorem rMid_mono (k : Nat) (l : List Int) (a : Int) (cs : List Int × Int × Int) : LeO (rMid k l a cs) (rMid (k + 1) l a cs) :=
  LeO.ite (LeO.ite (LeO.bind (lexpriorref01_Sum.mono _ _) fun _ => LeO.refl _) (LeO.refl _)) (LeO.refl _)
theorem lexpriorref21_Decode.mono : ∀ l k, LeO (lexpriorref21_Decode.f k l) (lexpriorref21_Decode.f (k + 1) l) := fun l k =>
  LeO.bind (LeO.refl _) fun _ => LeO.bind (lexpriorref21_Reader_num.mono _ _ _ _ _) fun _ => LeO.ite (LeO.bind (rList_mono k l _ _ _) fun _ => LeO.bind (LeO.refl _) fun _ => LeO.bind (rMid_mono k l _ _) fun _ => LeO.refl _) (LeO.refl _)
/-- The walk's state: the reader in a box of its own. -/
structure WrSd (w0 W : World) (g : Nat) (l : List Int) (p e : Int) : Prop where
  I : IsS74 w0 W g l p e
  B : Below w0.heap.size w0 W
theorem WrSd.below {w0 W W1 : World} {g : Nat} {l : List Int} {p e : Int} (h : WrSd w0 W g l p e) (hb : Below W.heap.size W W1) : WrSd w0 W1 g l p e := ⟨h.I.below hb, below_step h.B hb⟩
theorem WrSd.far {w0 W : World} {g : Nat} {l : List Int} {p e : Int} (h : WrSd w0 W g l p e) {a : Addr} (ha : g < a.block) (u : Value) : WrSd w0 (W.setCell a u) g l p e :=
  ⟨h.I.far (by omega) u, h.B.setCell (by have := h.I.ge; omega) u⟩
theorem WrSd.grown {w0 W W1 : World} {g : Nat} {l : List Int} {p e : Int} {row : Option Nat} (h : WrSd w0 W g l p e) (hg : W.grownBy W1 row) (hr : ∀ k, row = some k → g < k) : WrSd w0 W1 g l p e :=
  ⟨h.I.grown hg (fun e => by have := hr g e.symm; omega), h.B.grown hg h.B.size (fun k hk => by have := hr k hk; have := h.I.ge; omega)⟩
theorem WrSd.cells {w0 W : World} {g : Nat} {l : List Int} {p e : Int} (h : WrSd w0 W g l p e) : W.cell? ⟨g, 1, none⟩ = some (.int .i64 p) ∧ W.cell? ⟨g, 2, none⟩ = some (.int .i64 e) := by
  obtain ⟨A, c, hb, _⟩ := h.I
  exact ⟨(blk_cell hb 1).trans rfl, (blk_cell hb 2).trans rfl⟩
theorem WrSd.lt {w0 W : World} {g : Nat} {l : List Int} {p e : Int} (h : WrSd w0 W g l p e) : g < W.heap.size := h.I.lt
/-- The walk's state in a round: the reader, the box of the step, and the steps before it. -/
structure WrSb (w0 W : World) (g b : Nat) (l : List Int) (p e : Int) (cs : Array Value) (u : Value) (acc : List S52) : Prop where
  S : WrSd w0 W g l p e
  bk : W.heap[b]? = some (.cells cs 52 (0, 0))
  gb : g < b
  O : Kd.S k52 52 W (g + 1) (fun k => g < k ∧ k < b) u acc
section
variable {w0 W W1 : World} {g b : Nat} {l : List Int} {p e : Int} {cs : Array Value} {u : Value} {acc : List S52}
theorem WrSb.call (h : WrSb w0 W g b l p e cs u acc) {p' e' : Int} (hI : IsS74 w0 W1 g l p' e') (hB : Below w0.heap.size w0 W1) (hK : KeepBut W W1 g none) : WrSb w0 W1 g b l p' e' cs u acc :=
  ⟨⟨hI, hB⟩, hK.blk h.bk (by have := h.gb; omega) (by simp), h.gb, Kd.S_keep h.O hK (fun k hk => by omega)⟩
theorem WrSb.set (h : WrSb w0 W g b l p e cs u acc) (i : Nat) (v : Value) : WrSb w0 (W.setCell ⟨b, i, none⟩ v) g b l p e (cs.setIfInBounds i v) u acc :=
  ⟨h.S.far h.gb v, blk_set h.bk i v, h.gb, Kd.S_far (p := ⟨b, i, none⟩) h.O (fun k hk => by simp only; omega) v⟩
theorem WrSb.grown (h : WrSb w0 W g b l p e cs u acc) {row : Option Nat} (hg : W.grownBy W1 row) (hr : ∀ k, row = some k → b + 1 ≤ k) : WrSb w0 W1 g b l p e cs u acc :=
  ⟨h.S.grown hg (fun k hk => by have := hr k hk; have := h.gb; omega), blk_grown h.bk hg (fun e => by have := hr b e.symm; omega), h.gb, Kd.S_grown h.O hg (fun k hk e => by have := hr k e.symm; omega)⟩
theorem WrSb.below (h : WrSb w0 W g b l p e cs u acc) (hb : Below W.heap.size W W1) : WrSb w0 W1 g b l p e cs u acc := ⟨h.S.below hb, blk_below h.bk hb, h.gb, Kd.S_below h.O hb⟩
end
theorem byte_rng {l : List Int} {p e a b r p' e' : Int} (h : lexpriorref21_Reader_byte1.f l p e a b = some (r, p', e')) (ha : 0 ≤ a) (hb : 0 ≤ b) : 0 ≤ r ∧ r ≤ b := by
  unfold lexpriorref21_Reader_byte1.f lexpriorref21_Reader_fail.f at h
  by_cases h1 : e = 0
  · simp only [if_pos h1, Option.bind_some] at h
    by_cases h2 : p ≥ (l.length : Int)
    · rw [if_pos h2] at h; cases h; omega
    · rw [if_neg h2] at h
      by_cases h3 : 0 ≤ p
      · rw [if_pos h3] at h
        by_cases h4 : p < (l.length : Int)
        · rw [if_pos h4] at h
          by_cases h5 : rd l p < a
          · rw [if_pos h5] at h; cases h; omega
          · rw [if_neg h5] at h
            by_cases h6 : rd l p > b
            · rw [if_pos h6] at h; cases h; omega
            · rw [if_neg h6] at h; cases h; omega
        · rw [if_neg h4] at h; cases h
      · rw [if_neg h3] at h; cases h
  · rw [if_neg h1] at h; cases h; omega
theorem wrap64_rng (x : Int) : -9223372036854775808 ≤ wrap64 x ∧ wrap64 x ≤ 9223372036854775807 := by unfold wrap64; omega
theorem num_rng {k : Nat} {l : List Int} {p e m r p' e' : Int} (h : lexpriorref21_Reader_num.f k l p e m = some (r, p', e')) : -9223372036854775808 ≤ r ∧ r ≤ 9223372036854775807 := by
  unfold lexpriorref21_Reader_num.f at h
  by_cases h1 : e = 0
  · rw [if_pos h1] at h
    obtain ⟨q, _, h⟩ := Option.bind_eq_some_iff.1 h
    by_cases h2 : q.2.2 = 0
    · rw [if_pos h2] at h
      by_cases h3 : IntKind.u64.wrap m < q.1
      · rw [if_pos h3] at h; cases h; omega
      · rw [if_neg h3] at h; cases h; exact wrap64_rng _
    · rw [if_neg h2] at h; cases h; omega
  · rw [if_neg h1] at h; cases h; omega
set_option maxHeartbeats 8000000 in
set_option maxRecDepth 100000 in
theorem lexpriorref21_Decode.calls (k : Nat) (A0 : Option Addr) (c0 : Nat) (l0 : List Int) (r1 : List S52) (r2 : Int) (r3 : Int) (w : World) (hr0 : Kd.C (Kd.int .u8) w A0 l0.length l0) (hc0 : l0.length ≤ c0) (h : lexpriorref21_Decode.f k l0 = some (r1, r2, r3)) :
    Calls Try.prog 19 #[.slice A0 l0.length c0] w fun e w' => ∃ v0_ : Value, e = .returned (.tuple #[v0_, .int .i64 r2, .int .i64 r3]) ∧ Kd.S k52 52 w' w.heap.size (fun _ => True) v0_ r1 ∧ Below w.heap.size w w' := by
  unfold lexpriorref21_Decode.f at h
  obtain ⟨⟨ph, eh⟩, a1, h⟩ := Option.bind_eq_some_iff.1 h
  obtain ⟨⟨n, pn, en⟩, a2, h⟩ := Option.bind_eq_some_iff.1 h
  by_cases hn : n ≤ 65536
  rotate_left
  · rw [if_neg hn] at h; exact absurd h (by simp)
  rw [if_pos hn] at h
  obtain ⟨⟨ss, ps, es⟩, a3, h⟩ := Option.bind_eq_some_iff.1 h
  obtain ⟨⟨cs, pc, ec⟩, a4, h⟩ := Option.bind_eq_some_iff.1 h
  obtain ⟨⟨pm, em⟩, a5, h⟩ := Option.bind_eq_some_iff.1 h
  obtain ⟨⟨pz, ez⟩, a6, h⟩ := Option.bind_eq_some_iff.1 h
  have A1 := Lib.hid a1
  have A2 : Hid (lexpriorref21_Reader_num.f k l0 ph eh 65536 = some (n, pn, en)) := Lib.hid a2
  have A3 : Hid (rList k l0 n.toNat pn en = some (ss, ps, es)) := Lib.hid a3
  have A4 : Hid (rSum l0 4 ps es = some (cs, pc, ec)) := Lib.hid a4
  have A5 : Hid (rMid k l0 ps (cs, pc, ec) = some (pm, em)) := Lib.hid a5
  have A6 : Hid (rEnd l0 (pm, em) = some (pz, ez)) := Lib.hid a6
  have H : Hid ((if ez = 0 then some (ss, (0 : Int), (l0.length : Int)) else some ([], ez, pz)) = some (r1, r2, r3)) := Lib.hid h
  have HN := Lib.hid hn
  have HR0 := Aside0.mk hr0
  have HC0 := Aside0.mk hc0
  clear a1 a2 a3 a4 a5 a6 h hn
  go_enter Try.func19, Try.ntmps19
  go_wp2_with fail
  obtain ⟨g, hg⟩ : ∃ g, g = w.heap.size := ⟨_, rfl⟩
  have S0 := Aside0.mk (WrSd.mk (IsS74.new w w A0 c0 l0 0 0 (Below.refl _ _) hr0 hc0) (below_alloc (Below.refl _ _) _))
  rw [← hg] at S0 ⊢
  have HG := Lib.hid hg
  clear hg hr0 hc0
  go_loopw [6] (fun v6 wr => ∃ (i : Nat) (p e : Int), i ≤ 4 ∧ v6 = .int .i64 i ∧ Aside0 (WrSd w wr g l0 p e) ∧ Aside0 (rHd l0 (4 - i) i p e = some (ph, eh))) (fun v6 _ => 4 - (intOf v6).toNat)
  case atStart => exact ⟨0, 0, 0, by omega, rfl, S0, ⟨A1.out⟩⟩
  case round =>
    clear S0 A1
    obtain ⟨i, p, e, hi, rfl, HS, HH⟩ := hrel
    by_cases hlt : i < 4
    · obtain ⟨d, hd⟩ : ∃ d, 4 - i = d + 1 := ⟨4 - i - 1, by omega⟩
      have hh := HH.out
      rw [hd, rHd] at hh
      obtain ⟨⟨b, p1, e1⟩, b1, hh⟩ := Option.bind_eq_some_iff.1 hh
      have B1 := Lib.hid b1
      have HH1 := Aside0.mk hh
      have HD := Lib.hid (show 4 - (i + 1) = d by omega)
      clear hd b1 hh HH
      have q0_ : (0 ≤ (i : Int)) = True := eq_true (by omega)
      have q1_ : ((i : Int) < 4) = True := eq_true (by omega)
      have hxi : (((⟨#[108, 120, 100, 1]⟩ : ByteArray)[i]'(by show i < 4; exact hlt)).toNat : Int) = bt ⟨#[108, 120, 100, 1]⟩ (i : Int) := bt_at (⟨#[108, 120, 100, 1]⟩ : ByteArray) (i : Int) (show (i : Int).toNat < (⟨#[108, 120, 100, 1]⟩ : ByteArray).size from (show (i : Int).toNat < 4 by omega))
      go_wp2_with fail
      go_still_tail 5, (by kernel_rfl)
      change wpList _ _ _ _ _ wr.drew
      go_wp2_with fail
      have HS' := Aside0.mk (show WrSd w wr.drew g l0 p e from HS.out.below (below_drew (Below.refl _ _)))
      clear HS
      refine (lexpriorref21_Reader_byte1.calls g l0 p e (wrHd i) (wrHd i) b p1 e1 w _ HS'.out.I HS'.out.B B1.out).mono ?_
      rintro ev w1 ⟨rfl, hI1, hB1, hK1⟩
      have S1 := Aside0.mk (WrSd.mk hI1 hB1)
      clear hI1 hB1 hK1 HS'
      go_wp2
      go_roundw
      case rel => exact ⟨i + 1, p1, e1, by omega, by go_num, S1, ⟨by rw [HD.out]; exact HH1.out⟩⟩
      case measure => simp [intOf]; omega
    · obtain rfl : i = 4 := by omega
      have hh : some (p, e) = some (ph, eh) := HH.out
      obtain ⟨rfl, rfl⟩ := Prod.mk.inj (Option.some.inj hh)
      clear hh HH
      go_wp2_with fail
      refine (lexpriorref21_Reader_num.calls k g l0 p e 65536 n pn en w _ HS.out.I HS.out.B A2.out).mono ?_
      rintro ev w1 ⟨rfl, hI1, hB1, hK1⟩
      have S1 := Aside0.mk (WrSd.mk hI1 hB1)
      clear hI1 hB1 hK1 HS
      have NR := num_rng A2.out
      have NR' := NR
      clear NR
      go_wp2_with fail
      go_loopw [8, 9] (fun v8 v9 wr => ∃ (i : Nat) (p e : Int) (acc rest : List S52), i ≤ n.toNat ∧ v9 = .int .i64 i ∧ Aside0 (WrSd w wr g l0 p e) ∧ Aside0 (Kd.S k52 52 wr (g + 1) (fun k => g < k) v8 acc) ∧ Aside0 (rList k l0 (n.toNat - i) p e = some (rest, ps, es)) ∧ Aside0 (acc ++ rest = ss) ∧ Aside0 (acc.length = i)) (fun _ v9 _ => n.toNat - (intOf v9).toNat)
      case atStart => exact ⟨0, pn, en, [], ss, by omega, rfl, S1, ⟨Kd.S_nil _ _ _ _ _⟩, ⟨A3.out⟩, ⟨rfl⟩, ⟨rfl⟩⟩
      case round =>
        clear S1 A3
        obtain ⟨i, p, e, acc, rest, hi, rfl, HS, HO, HL, HA, HLen⟩ := hrel
        obtain ⟨x1, x2⟩ := HS.out.cells
        by_cases hlt : (i : Int) < n
        · by_cases he : e = 0
          · subst he
            obtain ⟨d, hd⟩ : ∃ d, n.toNat - i = d + 1 := ⟨n.toNat - i - 1, by omega⟩
            have hh := HL.out
            rw [hd, rList, if_pos rfl] at hh
            obtain ⟨⟨s, p', e'⟩, hs, hh⟩ := Option.bind_eq_some_iff.1 hh
            obtain ⟨⟨rest', P, E⟩, hr, hh⟩ := Option.bind_eq_some_iff.1 hh
            replace hh : some (s :: rest', P, E) = some (rest, ps, es) := hh
            cases hh
            unfold rStep at hs
            obtain ⟨⟨t, pt, et⟩, b1, hs⟩ := Option.bind_eq_some_iff.1 hs
            obtain ⟨⟨li, pl, el⟩, b2, hs⟩ := Option.bind_eq_some_iff.1 hs
            obtain ⟨⟨hw, ph_, eh_⟩, b3, hs⟩ := Option.bind_eq_some_iff.1 hs
            obtain ⟨⟨r, pr, er⟩, b4, hs⟩ := Option.bind_eq_some_iff.1 hs
            obtain ⟨⟨m, pm_, em_⟩, b5, hs⟩ := Option.bind_eq_some_iff.1 hs
            by_cases hm : m ≤ 4096
            rotate_left
            · rw [if_neg hm] at hs; cases hs
            rw [if_pos hm] at hs
            obtain ⟨⟨cc, pq, eq⟩, b6, hs⟩ := Option.bind_eq_some_iff.1 hs
            replace hs : some ((⟨t, li, hw, wrap64 (r - 1), cc⟩ : S52), pq, eq) = some (s, p', e') := hs
            cases hs
            have R1 := byte_rng b1 (by decide) (by decide)
            have R2 := num_rng b2
            have R3 := byte_rng b3 (by decide) (by decide)
            have R4 := num_rng b4
            have R5 := num_rng b5
            have B1 : Hid (lexpriorref21_Reader_byte1.f l0 p 0 1 4 = some (t, pt, et)) := Lib.hid b1
            have B2 : Hid (lexpriorref21_Reader_num.f k l0 pt et 4095 = some (li, pl, el)) := Lib.hid b2
            have B3 : Hid (lexpriorref21_Reader_byte1.f l0 pl el 1 5 = some (hw, ph_, eh_)) := Lib.hid b3
            have B4 : Hid (lexpriorref21_Reader_num.f k l0 ph_ eh_ 4096 = some (r, pr, er)) := Lib.hid b4
            have B5 : Hid (lexpriorref21_Reader_num.f k l0 pr er 4096 = some (m, pm_, em_)) := Lib.hid b5
            have B6 : Hid (rCho k l0 m.toNat pm_ em_ = some (cc, p', e')) := Lib.hid b6
            have HR := Lib.hid hr
            have HD := Lib.hid (show n.toNat - (i + 1) = d by omega)
            have hZ5 := 0
            have T0 := Aside0.mk (WrSb.mk (HS.out.below (below_alloc (Below.refl _ _) (.cells #[.int .i64 0, .int .i64 0, .int .i64 0, .int .i64 0, .slice none 0 0] 52 (0, 0)))) (blk_new wr (.cells #[.int .i64 0, .int .i64 0, .int .i64 0, .int .i64 0, .slice none 0 0] 52 (0, 0))) HS.out.lt (Kd.S_alloc (Kd.S_mono (Kd.S_bound HO.out) (ok' := fun k => g < k ∧ k < wr.heap.size) (fun k hk => ⟨hk.1, by have := hk.2.2; omega⟩)) (.cells #[.int .i64 0, .int .i64 0, .int .i64 0, .int .i64 0, .slice none 0 0] 52 (0, 0))))
            have LB := Lib.hid (show ∀ k, u8.ownBlock = some k → k < wr.heap.size from fun k hk => Kd.S_lt HO.out k hk)
            have BS := Lib.hid (show ∀ k, u8.ownBlock = some k → g + 1 ≤ k from fun k hk => Kd.S_base HO.out k hk)
            clear hd b1 b2 b3 b4 b5 b6 hr HL hZ5 HS HO
            go_wp2_with fail
            refine (lexpriorref21_Reader_byte1.calls g l0 p 0 1 4 t pt et w _ T0.out.S.I T0.out.S.B B1.out).mono ?_
            rintro ev w1 ⟨rfl, hI1, hB1, hK1⟩
            have U1 := Aside0.mk (T0.out.call hI1 hB1 hK1)
            have y1 := blk_frozen U1.out.bk 0
            obtain ⟨z1, hz1⟩ : ∃ z, w1.cell? ⟨wr.heap.size, 0, none⟩ = some z := ⟨_, (blk_cell U1.out.bk 0).trans (Array.getElem?_eq_getElem (by simp))⟩
            have T1 := Aside0.mk (U1.out.set 0 (.int .i64 t))
            clear hI1 hB1 hK1 T0 U1
            go_wp2_with fail
            refine (lexpriorref21_Reader_num.calls k g l0 pt et 4095 li pl el w _ T1.out.S.I T1.out.S.B B2.out).mono ?_
            rintro ev w2 ⟨rfl, hI1, hB1, hK1⟩
            have U2 := Aside0.mk (T1.out.call hI1 hB1 hK1)
            have y2 := blk_frozen U2.out.bk 1
            obtain ⟨z2, hz2⟩ : ∃ z, w2.cell? ⟨wr.heap.size, 1, none⟩ = some z := ⟨_, (blk_cell U2.out.bk 1).trans (Array.getElem?_eq_getElem (by simp))⟩
            have T2 := Aside0.mk (U2.out.set 1 (.int .i64 li))
            clear hI1 hB1 hK1 T1 U2
            go_wp2_with fail
            refine (lexpriorref21_Reader_byte1.calls g l0 pl el 1 5 hw ph_ eh_ w _ T2.out.S.I T2.out.S.B B3.out).mono ?_
            rintro ev w3 ⟨rfl, hI1, hB1, hK1⟩
            have U3 := Aside0.mk (T2.out.call hI1 hB1 hK1)
            have y3 := blk_frozen U3.out.bk 2
            obtain ⟨z3, hz3⟩ : ∃ z, w3.cell? ⟨wr.heap.size, 2, none⟩ = some z := ⟨_, (blk_cell U3.out.bk 2).trans (Array.getElem?_eq_getElem (by simp))⟩
            have T3 := Aside0.mk (U3.out.set 2 (.int .i64 hw))
            clear hI1 hB1 hK1 T2 U3
            go_wp2_with fail
            refine (lexpriorref21_Reader_num.calls k g l0 ph_ eh_ 4096 r pr er w _ T3.out.S.I T3.out.S.B B4.out).mono ?_
            rintro ev w4 ⟨rfl, hI1, hB1, hK1⟩
            have U4 := Aside0.mk (T3.out.call hI1 hB1 hK1)
            have y4 := blk_frozen U4.out.bk 3
            obtain ⟨z4, hz4⟩ : ∃ z, w4.cell? ⟨wr.heap.size, 3, none⟩ = some z := ⟨_, (blk_cell U4.out.bk 3).trans (Array.getElem?_eq_getElem (by simp))⟩
            have T4 := Aside0.mk (U4.out.set 3 (.int .i64 (wrap64 (r - 1))))
            clear hI1 hB1 hK1 T3 U4
            go_wp2_with fail
            refine (lexpriorref21_Reader_num.calls k g l0 pr er 4096 m pm_ em_ w _ T4.out.S.I T4.out.S.B B5.out).mono ?_
            rintro ev w5 ⟨rfl, hI1, hB1, hK1⟩
            have U5 := Aside0.mk (T4.out.call hI1 hB1 hK1)
            have T5 := U5
            clear hI1 hB1 hK1 T4 U5
            go_wp2_with fail
            obtain ⟨wx, rfl⟩ : ∃ wx : World, wx = wr := ⟨_, rfl⟩
            go_loopw [12] (fun v12 wr => ∃ (j : Nat) (p e : Int) (ac re : List S54) (v : Value), j ≤ m.toNat ∧ v12 = .int .i64 j ∧ Aside0 (WrSb w wr g wx.heap.size l0 p e #[.int .i64 t, .int .i64 li, .int .i64 hw, .int .i64 (wrap64 (r - 1)), v] u8 acc) ∧ Aside0 (Kd.R k54 54 wr (wx.heap.size + 1) (fun k => wx.heap.size + 1 ≤ k) v ac) ∧ Aside0 (rCho k l0 (m.toNat - j) p e = some (re, p', e')) ∧ Aside0 (ac ++ re = cc) ∧ Aside0 (ac.length = j)) (fun v12 _ => m.toNat - (intOf v12).toNat)
            case atStart => exact ⟨0, pm_, em_, [], cc, .slice none 0 0, by omega, rfl, ⟨T5.out⟩, ⟨Kd.R_nil _ _ _ _ _⟩, ⟨B6.out⟩, ⟨rfl⟩, ⟨rfl⟩⟩
            case round =>
              clear T5 B6 x1 x2
              obtain ⟨j, p, e, ac, re, v, hj, rfl, HSb, HRw, HLj, HAj, HLenj⟩ := hrel
              obtain ⟨x1, x2⟩ := HSb.out.S.cells
              by_cases hltj : (j : Int) < m
              · by_cases he : e = 0
                · subst he
                  obtain ⟨d2, hd⟩ : ∃ d2, m.toNat - j = d2 + 1 := ⟨m.toNat - j - 1, by omega⟩
                  have hh := HLj.out
                  rw [hd, rCho, if_pos rfl] at hh
                  obtain ⟨⟨a, pa, ea⟩, c1, hh⟩ := Option.bind_eq_some_iff.1 hh
                  obtain ⟨⟨bq, pb, eb⟩, c2, hh⟩ := Option.bind_eq_some_iff.1 hh
                  obtain ⟨⟨re', P2, E2⟩, c3, hh⟩ := Option.bind_eq_some_iff.1 hh
                  replace hh : some ((⟨wrap64 (a - 1), wrap64 (bq - 1)⟩ : S54) :: re', P2, E2) = some (re, p', e') := hh
                  cases hh
                  have Ra := num_rng c1
                  have Rb := num_rng c2
                  have C1 : Hid (lexpriorref21_Reader_num.f k l0 p 0 16 = some (a, pa, ea)) := Lib.hid c1
                  have C2 : Hid (lexpriorref21_Reader_num.f k l0 pa ea 4096 = some (bq, pb, eb)) := Lib.hid c2
                  have C3 : Hid (rCho k l0 d2 pb eb = some (re', p', e')) := Lib.hid c3
                  have HDj := Lib.hid (show m.toNat - (j + 1) = d2 by omega)
                  clear hd c1 c2 c3 HLj
                  go_wp2_with fail
                  refine (lexpriorref21_Reader_num.calls k g l0 p 0 16 a pa ea w _ HSb.out.S.I HSb.out.S.B C1.out).mono ?_
                  rintro ev w6 ⟨rfl, hI1, hB1, hK1⟩
                  have U6 := Aside0.mk (HSb.out.call hI1 hB1 hK1)
                  have Q6 := Aside0.mk (Kd.R_keep HRw.out hK1 (fun k hk => by have := HSb.out.gb; omega))
                  clear hI1 hB1 hK1 HSb HRw x1 x2
                  go_wp2_with fail
                  refine (lexpriorref21_Reader_num.calls k g l0 pa ea 4096 bq pb eb w _ U6.out.S.I U6.out.S.B C2.out).mono ?_
                  rintro ev w7 ⟨rfl, hI1, hB1, hK1⟩
                  have U7 := Aside0.mk (U6.out.call hI1 hB1 hK1)
                  have Q7 := Aside0.mk (Kd.R_keep Q6.out hK1 (fun k hk => by have := U6.out.gb; omega))
                  clear hI1 hB1 hK1 U6 Q6
                  have x4 : w7.cell? ⟨wx.heap.size, 4, none⟩ = some v := (blk_cell U7.out.bk 4).trans rfl
                  have xf4 := blk_frozen U7.out.bk 4
                  have Z7 := Aside0.mk (blk_lt U7.out.bk)
                  go_wp2_with ((with_reducible refine gate_builtin (b := .append) (xs := #[.tmp 83, .tmp 87]) rfl ?_); at_builtin; refine Kd.R_append k54 (w0 := w7) (wx.heap.size + 1) rfl (.tmp 83) (.tmp 87) 50 54 (.agg #[(.int .i64 0), (.int .i64 0)]) 16 rfl Try.underlying50 info54 rfl (by decide) (by omega) v ac (⟨wrap64 (a - 1), wrap64 (bq - 1)⟩ : S54) [.int .i64 (wrap64 (a - 1)), .int .i64 (wrap64 (bq - 1))] (fun k => wx.heap.size + 1 ≤ k) (fun _ => False) rfl rfl ?aP (fun _ hk => hk.elim) ?aF ?aO ?aB ?aS ?aL ?_; (case aP => exact k54_mkM _ _ _ (⟨wrap64 (a - 1), wrap64 (bq - 1)⟩ : S54)); (case aF => exact fun k hk => by have := Z7.out; omega); (case aO => exact Q7.out); (case aB => exact Below.refl _ _); (case aS => have := Z7.out; omega); (case aL => rw [HLenj.out]; omega); intro v1 w8 hR1 hB1 hg1 hat1; obtain ⟨Ao, co, eo⟩ := Kd.R_slice hR1; subst eo; have U8 := Aside0.mk (U7.out.grown hg1 Q7.out.1); have R8 := Aside0.mk hR1; have x8 : w8.cell? ⟨wx.heap.size, 4, none⟩ = some v := (blk_cell U8.out.bk 4).trans rfl; have xf8 := blk_frozen U8.out.bk 4; clear hR1 hB1 hg1 hat1)
                  have e8 : (ac ++ [(⟨wrap64 (a - 1), wrap64 (bq - 1)⟩ : S54)]).length = ac.length + 1 := by simp
                  have R9 := R8.out
                  rw [e8] at R9
                  refine ⟨⟨j + 1, pb, eb, ac ++ [(⟨wrap64 (a - 1), wrap64 (bq - 1)⟩ : S54)], re', .slice Ao (ac.length + 1) co, by omega, rfl, ⟨U8.out.set 4 (.slice Ao (ac.length + 1) co)⟩, ⟨Kd.R_far (p := ⟨wx.heap.size, 4, none⟩) R9 (fun k hk => by simp only; omega) _⟩, ⟨by rw [HDj.out]; exact C3.out⟩, ⟨by rw [List.append_assoc]; exact HAj.out⟩, ⟨by rw [e8, HLenj.out]⟩⟩, by simp [intOf]; omega⟩
                · have FINj := Lib.hid (show re = [] ∧ p = p' ∧ e = e' by
                    have hh := HLj.out
                    obtain ⟨d2, hd⟩ : ∃ d2, m.toNat - j = d2 + 1 := ⟨m.toNat - j - 1, by omega⟩
                    rw [hd, rCho, if_neg he] at hh
                    cases hh
                    exact ⟨rfl, rfl, rfl⟩)
                  obtain ⟨hre, hp_, he_⟩ := FINj.out
                  subst hre
                  subst hp_
                  subst he_
                  have hcc := HAj.out
                  rw [List.append_nil] at hcc
                  subst hcc
                  obtain ⟨Av, cv, ev⟩ := Kd.R_slice HRw.out
                  subst ev
                  have e0 : wr.cell? ⟨wx.heap.size, 0, none⟩ = some (.int .i64 t) := (blk_cell HSb.out.bk 0).trans rfl
                  have e1 : wr.cell? ⟨wx.heap.size, 1, none⟩ = some (.int .i64 li) := (blk_cell HSb.out.bk 1).trans rfl
                  have e2 : wr.cell? ⟨wx.heap.size, 2, none⟩ = some (.int .i64 hw) := (blk_cell HSb.out.bk 2).trans rfl
                  have e3 : wr.cell? ⟨wx.heap.size, 3, none⟩ = some (.int .i64 (wrap64 (r - 1))) := (blk_cell HSb.out.bk 3).trans rfl
                  have e4 : wr.cell? ⟨wx.heap.size, 4, none⟩ = some (.slice Av ac.length cv) := (blk_cell HSb.out.bk 4).trans rfl
                  have Z2 := Aside0.mk (show g < wx.heap.size ∧ wx.heap.size < wr.heap.size from ⟨HSb.out.gb, blk_lt HSb.out.bk⟩)
                  have R2 := Aside0.mk (Kd.R_lower HRw.out (show g + 1 ≤ wx.heap.size + 1 by have := Z2.out; omega))
                  have L2 := Aside0.mk (show ∀ k, wx.heap.size + 1 ≤ k → g < k ∧ some k ≠ u8.ownBlock from fun k hk => ⟨by have := Z2.out; omega, fun e => by have := LB.out k e.symm; omega⟩)
                  have O2 := Aside0.mk (Kd.S_mono HSb.out.O (ok' := fun k => g < k ∧ ¬ wx.heap.size + 1 ≤ k) (fun k hk => ⟨hk.1, by omega⟩))
                  have Sj := Aside0.mk HSb.out.S
                  clear HSb HRw FINj
                  go_wp2_with ((with_reducible refine gate_builtin (b := .append) (xs := #[.tmp 90, .tmp 92]) rfl ?_); at_builtin; refine Kd.S_append k52 (w0 := wr) (g + 1) rfl (.tmp 90) (.tmp 92) 22 52 (.agg #[(.int .i64 0), (.int .i64 0), (.int .i64 0), (.int .i64 0), (.slice none 0 0)]) 56 rfl Try.underlying22 info52 rfl (by decide) (by omega) u8 acc (⟨t, li, hw, wrap64 (r - 1), ac⟩ : S52) [.int .i64 t, .int .i64 li, .int .i64 hw, .int .i64 (wrap64 (r - 1)), .slice Av ac.length cv] (fun k => g < k) (fun k => wx.heap.size + 1 ≤ k) rfl rfl ?aP L2.out ?aF ?aO ?aB ?aS ?aL ?_; (case aP => exact k52_mkM _ _ _ (⟨t, li, hw, wrap64 (r - 1), ac⟩ : S52) R2.out); (case aF => exact fun k hk => by have := Z2.out; omega); (case aO => exact O2.out); (case aB => exact Below.refl _ _); (case aS => have := Z2.out; omega); (case aL => have := HN.out; rw [HLen.out]; omega); intro v1 w8 hR1 hB1 hg1 hat1; obtain ⟨Ao, co, eo⟩ := Kd.R_slice (Kd.S_R hR1); subst eo; have S8 := Aside0.mk (Sj.out.grown hg1 BS.out); have R8 := Aside0.mk hR1; clear hR1 hB1 hg1 hat1)
                  have e8 : (acc ++ [(⟨t, li, hw, wrap64 (r - 1), ac⟩ : S52)]).length = acc.length + 1 := by simp
                  have R9 := R8.out
                  rw [e8] at R9
                  refine ⟨⟨i + 1, p, e, acc ++ [(⟨t, li, hw, wrap64 (r - 1), ac⟩ : S52)], rest', by omega, rfl, S8, ⟨R9⟩, ⟨by rw [HD.out]; exact HR.out⟩, ⟨by rw [List.append_assoc]; exact HA.out⟩, ⟨by rw [List.length_append, HLen.out]; rfl⟩⟩, by simp [intOf]; omega⟩
              · have FINj := Lib.hid (show re = [] ∧ p = p' ∧ e = e' by
                  have hh := HLj.out
                  rw [show m.toNat - j = 0 by omega, rCho] at hh
                  cases hh
                  exact ⟨rfl, rfl, rfl⟩)
                obtain ⟨hre, hp_, he_⟩ := FINj.out
                subst hre
                subst hp_
                subst he_
                have hcc := HAj.out
                rw [List.append_nil] at hcc
                subst hcc
                obtain ⟨Av, cv, ev⟩ := Kd.R_slice HRw.out
                subst ev
                have e0 : wr.cell? ⟨wx.heap.size, 0, none⟩ = some (.int .i64 t) := (blk_cell HSb.out.bk 0).trans rfl
                have e1 : wr.cell? ⟨wx.heap.size, 1, none⟩ = some (.int .i64 li) := (blk_cell HSb.out.bk 1).trans rfl
                have e2 : wr.cell? ⟨wx.heap.size, 2, none⟩ = some (.int .i64 hw) := (blk_cell HSb.out.bk 2).trans rfl
                have e3 : wr.cell? ⟨wx.heap.size, 3, none⟩ = some (.int .i64 (wrap64 (r - 1))) := (blk_cell HSb.out.bk 3).trans rfl
                have e4 : wr.cell? ⟨wx.heap.size, 4, none⟩ = some (.slice Av ac.length cv) := (blk_cell HSb.out.bk 4).trans rfl
                have Z2 := Aside0.mk (show g < wx.heap.size ∧ wx.heap.size < wr.heap.size from ⟨HSb.out.gb, blk_lt HSb.out.bk⟩)
                have R2 := Aside0.mk (Kd.R_lower HRw.out (show g + 1 ≤ wx.heap.size + 1 by have := Z2.out; omega))
                have L2 := Aside0.mk (show ∀ k, wx.heap.size + 1 ≤ k → g < k ∧ some k ≠ u8.ownBlock from fun k hk => ⟨by have := Z2.out; omega, fun e => by have := LB.out k e.symm; omega⟩)
                have O2 := Aside0.mk (Kd.S_mono HSb.out.O (ok' := fun k => g < k ∧ ¬ wx.heap.size + 1 ≤ k) (fun k hk => ⟨hk.1, by omega⟩))
                have Sj := Aside0.mk HSb.out.S
                clear HSb HRw FINj
                go_wp2_with ((with_reducible refine gate_builtin (b := .append) (xs := #[.tmp 90, .tmp 92]) rfl ?_); at_builtin; refine Kd.S_append k52 (w0 := wr) (g + 1) rfl (.tmp 90) (.tmp 92) 22 52 (.agg #[(.int .i64 0), (.int .i64 0), (.int .i64 0), (.int .i64 0), (.slice none 0 0)]) 56 rfl Try.underlying22 info52 rfl (by decide) (by omega) u8 acc (⟨t, li, hw, wrap64 (r - 1), ac⟩ : S52) [.int .i64 t, .int .i64 li, .int .i64 hw, .int .i64 (wrap64 (r - 1)), .slice Av ac.length cv] (fun k => g < k) (fun k => wx.heap.size + 1 ≤ k) rfl rfl ?aP L2.out ?aF ?aO ?aB ?aS ?aL ?_; (case aP => exact k52_mkM _ _ _ (⟨t, li, hw, wrap64 (r - 1), ac⟩ : S52) R2.out); (case aF => exact fun k hk => by have := Z2.out; omega); (case aO => exact O2.out); (case aB => exact Below.refl _ _); (case aS => have := Z2.out; omega); (case aL => have := HN.out; rw [HLen.out]; omega); intro v1 w8 hR1 hB1 hg1 hat1; obtain ⟨Ao, co, eo⟩ := Kd.R_slice (Kd.S_R hR1); subst eo; have S8 := Aside0.mk (Sj.out.grown hg1 BS.out); have R8 := Aside0.mk hR1; clear hR1 hB1 hg1 hat1)
                have e8 : (acc ++ [(⟨t, li, hw, wrap64 (r - 1), ac⟩ : S52)]).length = acc.length + 1 := by simp
                have R9 := R8.out
                rw [e8] at R9
                refine ⟨⟨i + 1, p, e, acc ++ [(⟨t, li, hw, wrap64 (r - 1), ac⟩ : S52)], rest', by omega, rfl, S8, ⟨R9⟩, ⟨by rw [HD.out]; exact HR.out⟩, ⟨by rw [List.append_assoc]; exact HA.out⟩, ⟨by rw [List.length_append, HLen.out]; rfl⟩⟩, by simp [intOf]; omega⟩
          · have f8_ : (e == 0) = false := by simpa using he
            have FIN := Lib.hid (show rest = [] ∧ ps = p ∧ es = e by
              have hh := HL.out
              obtain ⟨d, hd⟩ : ∃ d, n.toNat - i = d + 1 := ⟨n.toNat - i - 1, by omega⟩
              rw [hd, rList, if_neg he] at hh
              cases hh
              exact ⟨rfl, rfl, rfl⟩)
            obtain ⟨hre0, hp0_, he0_⟩ := FIN.out
            subst hre0
            subst hp0_
            subst he0_
            have hcc0 := HA.out
            rw [List.append_nil] at hcc0
            subst hcc0
            clear FIN HA HL HLen
            go_wp2_with fail
            obtain ⟨wx, rfl⟩ : ∃ wx : World, wx = wr := ⟨_, rfl⟩
            have ZX := Aside0.mk (show g < wx.heap.size from HS.out.lt)
            go_loopw [16, 17] (fun v16 v17 wr => ∃ (j : Nat) (p e : Int) (a2 re : List Int), j ≤ 4 ∧ v17 = .int .i64 j ∧ Aside0 (WrSd w wr g l0 p e) ∧ Aside0 (Kd.S k52 52 wr (g + 1) (fun k => g < k ∧ k < wx.heap.size) u8 acc) ∧ Aside0 (Kd.R (Kd.int .u8) 5 wr wx.heap.size (fun k => wx.heap.size ≤ k) v16 a2) ∧ Aside0 (rSum l0 (4 - j) p e = some (re, pc, ec)) ∧ Aside0 (a2 ++ re = cs) ∧ Aside0 (a2.length = j) ∧ wx.heap.size ≤ wr.heap.size) (fun _ v17 _ => 4 - (intOf v17).toNat)
            case atStart => exact ⟨0, ps, es, [], cs, by omega, rfl, HS, ⟨Kd.S_mono (Kd.S_bound HO.out) (fun k hk => ⟨hk.1, by have := hk.2.2; omega⟩)⟩, ⟨Kd.R_nil _ _ _ _ _⟩, ⟨A4.out⟩, ⟨rfl⟩, ⟨rfl⟩, Nat.le_refl _⟩
            case round =>
              clear HS HO A4 x1 x2
              obtain ⟨j, p, e, a2, re, hj, rfl, HS, HO, HRw, HLj, HAj, HLenj, hzz⟩ := hrel
              obtain ⟨x1, x2⟩ := HS.out.cells
              by_cases hltj : j < 4
              · by_cases he : e = 0
                · subst he
                  obtain ⟨d2, hd⟩ : ∃ d2, 4 - j = d2 + 1 := ⟨4 - j - 1, by omega⟩
                  have hh := HLj.out
                  rw [hd, rSum, if_pos rfl] at hh
                  obtain ⟨⟨bq, pb, eb⟩, c2, hh⟩ := Option.bind_eq_some_iff.1 hh
                  obtain ⟨⟨re', P2, E2⟩, c3, hh⟩ := Option.bind_eq_some_iff.1 hh
                  replace hh : some (bq :: re', P2, E2) = some (re, pc, ec) := hh
                  cases hh
                  have Rb := byte_rng c2 (by decide) (by decide)
                  have C2 : Hid (lexpriorref21_Reader_byte1.f l0 p 0 0 255 = some (bq, pb, eb)) := Lib.hid c2
                  have C3 : Hid (rSum l0 d2 pb eb = some (re', pc, ec)) := Lib.hid c3
                  have HDj := Lib.hid (show 4 - (j + 1) = d2 by omega)
                  clear hd c2 c3 HLj
                  go_wp2_with fail
                  refine (lexpriorref21_Reader_byte1.calls g l0 p 0 0 255 bq pb eb w _ HS.out.I HS.out.B C2.out).mono ?_
                  rintro ev w7 ⟨rfl, hI1, hB1, hK1⟩
                  have U7 := Aside0.mk (WrSd.mk hI1 hB1)
                  have Q7 := Aside0.mk (Kd.R_keep HRw.out hK1 (fun k hk => by have := ZX.out; omega))
                  have O7 := Aside0.mk (Kd.S_keep HO.out hK1 (fun k hk => by omega))
                  have Z7 := Aside0.mk (show wx.heap.size ≤ w7.heap.size from Nat.le_trans hzz hK1.1)
                  clear hI1 hB1 hK1 HS HO HRw
                  go_wp2_with ((with_reducible refine gate_builtin (b := .append) (xs := #[.tmp 109, .tmp 112]) rfl ?_); at_builtin; refine Kd.R_append (Kd.int .u8) (w0 := w7) wx.heap.size rfl (.tmp 109) (.tmp 112) 29 5 (.int .u8 0) 1 rfl Try.underlying29 info5 rfl (by decide) (by omega) u16 a2 bq [.int .u8 bq] (fun k => wx.heap.size ≤ k) (fun _ => False) rfl rfl ?aP (fun _ hk => hk.elim) ?aF ?aO ?aB ?aS ?aL ?_; (case aP => exact rfl); (case aF => exact fun k hk => by have := Z7.out; omega); (case aO => exact Q7.out); (case aB => exact Below.refl _ _); (case aS => have := Z7.out; omega); (case aL => rw [HLenj.out]; omega); intro v1 w8 hR1 hB1 hg1 hat1; obtain ⟨Ao, co, eo⟩ := Kd.R_slice hR1; subst eo; have U8 := Aside0.mk (U7.out.grown hg1 (fun k hk => by have := Q7.out.1 k hk; have := ZX.out; omega)); have O8 := Aside0.mk (Kd.S_grown O7.out hg1 (fun k hk e => by have := Q7.out.1 k e.symm; omega)); have R8 := Aside0.mk hR1; have Z8 := Aside0.mk (Nat.le_trans Z7.out hg1.size); clear hR1 hB1 hg1 hat1)
                  have e8 : (a2 ++ [bq]).length = a2.length + 1 := by simp
                  have R9 := R8.out
                  rw [e8] at R9
                  first
                  | (refine ⟨⟨j + 1, pb, eb, a2 ++ [bq], re', by omega, rfl, U8, O8, ⟨R9⟩, ⟨by rw [HDj.out]; exact C3.out⟩, ⟨by rw [List.append_assoc]; exact HAj.out⟩, ⟨by rw [List.length_append, HLenj.out]; rfl⟩, Z8.out⟩, by simp [intOf]; omega⟩)
                  | (go_roundw; (case rel => exact ⟨j + 1, pb, eb, a2 ++ [bq], re', by omega, by go_num, U8, O8, ⟨R9⟩, ⟨by rw [HDj.out]; exact C3.out⟩, ⟨by rw [List.append_assoc]; exact HAj.out⟩, ⟨by rw [List.length_append, HLenj.out]; rfl⟩, Z8.out⟩); (case measure => simp [intOf]; omega))
                · have FINj := Lib.hid (show re = [] ∧ p = pc ∧ e = ec by
                    have hh := HLj.out
                    obtain ⟨d2, hd⟩ : ∃ d2, 4 - j = d2 + 1 := ⟨4 - j - 1, by omega⟩
                    rw [hd, rSum, if_neg he] at hh
                    cases hh
                    exact ⟨rfl, rfl, rfl⟩)
                  obtain ⟨hre, hp_, he_⟩ := FINj.out
                  subst hre
                  subst hp_
                  subst he_
                  have hcc := HAj.out
                  rw [List.append_nil] at hcc
                  subst hcc
                  clear FINj HLj
                  by_cases hes : e = 0
                  · exact absurd hes he
                  · have h5 := A5.out
                    unfold rMid at h5
                    rw [if_neg hes] at h5
                    replace h5 : some (p, e) = some (pm, em) := h5
                    cases h5
                    have he0 := hes
                    clear A5
                    have h6 := A6.out
                    unfold rEnd at h6
                    rw [if_neg he0] at h6
                    cases h6
                    have hez : em ≠ 0 := he0
                    have f9 : (em != 0) = true := by simpa using hez
                    have f8 : (em == 0) = false := by simpa using hez
                    clear A6
                    have hh := H.out
                    rw [if_neg hez] at hh
                    cases hh
                    clear H
                    go_wp2_with fail
                    go_quiet (fail)
                    go_wp2
                    refine bodyPost_ret (results_tmp3 rfl _ _ _) rfl ?_
                    exact ⟨_, rfl, Kd.S_nil _ _ _ _ _, by repeat (first | exact HS.out.B | apply pw_below_drewN)⟩
              · have FINj := Lib.hid (show re = [] ∧ p = pc ∧ e = ec by
                  have hh := HLj.out
                  rw [show 4 - j = 0 by omega, rSum] at hh
                  cases hh
                  exact ⟨rfl, rfl, rfl⟩)
                obtain ⟨hre, hp_, he_⟩ := FINj.out
                subst hre
                subst hp_
                subst he_
                have hcc := HAj.out
                rw [List.append_nil] at hcc
                subst hcc
                clear FINj HLj
                by_cases hes : e = 0
                · subst hes
                  have h5 := A5.out
                  unfold rMid at h5
                  rw [if_pos rfl] at h5
                  by_cases hlen : a2.length = 4 ∧ 0 ≤ ps ∧ ps ≤ (l0.length : Int)
                  rotate_left
                  · rw [if_neg (by exact hlen)] at h5
                    cases h5
                  rw [if_pos (by exact hlen)] at h5
                  obtain ⟨hl4, hps0, hps1⟩ := hlen
                  obtain ⟨sm, d1, h5⟩ := Option.bind_eq_some_iff.1 h5
                  obtain ⟨ws, d2, h5⟩ := Option.bind_eq_some_iff.1 h5
                  by_cases hw4 : ws.length = 4
                  rotate_left
                  · rw [if_neg hw4] at h5
                    cases h5
                  rw [if_pos hw4] at h5
                  have A8 : Hid (rCmp l0 a2 ws ps 4 0 p 0 = some (pm, em)) := Lib.hid h5
                  have D2 : Hid (lexpriorref21_Little.f sm = some ws) := Lib.hid d2
                  obtain ⟨i08, hi08, _, hsz8, _⟩ := info_parts octets_ReadUint.info
                  obtain ⟨hcut, hA8, hC8⟩ := print_take_of (P := Try.prog) (Value.int .u8) 0 29 5 .i64 Try.underlying29 hi08 hsz8 A0 c0 l0 ps hps0 hps1 HC0.out
                  obtain ⟨lt, elt⟩ : ∃ lt, l0.take ps.toNat = lt := ⟨_, rfl⟩
                  rw [elt] at hcut hA8 hC8 d1
                  have D1 : Hid (lexpriorref01_Sum.f k lt = some sm) := Lib.hid d1
                  have HC8 := Aside0.mk hC8
                  have HCw : Aside0 (Kd.C (Kd.int .u8) wr A0 lt.length lt) := ⟨Kd.C_of_reads (h1 := fun _ => rfl) (hA8 _ (Kd.reads_of_C (Kd.C_below HR0.out HS.out.B)))⟩
                  clear h5 d1 d2 hA8 hC8 hi08 hsz8 elt A5
                  go_wp2_with (first | (go_at_call 28; refine (lexpriorref01_Sum.calls k A0 c0 lt sm _ HCw.out HC8.out D1.out).mono ?_; rintro ev w5 ⟨rfl, ⟨nd, rfl⟩⟩))
                  refine (lexpriorref21_Little.calls sm ws _ D2.out).mono ?_
                  rintro ev w5 ⟨v5, rfl, hR5, hB5⟩
                  have S5 := Aside0.mk ((show WrSd w (wr.drewN nd) g l0 p 0 from HS.out.below (pw_below_drewN (Below.refl _ _) nd)).below hB5)
                  have O5 := Aside0.mk (Kd.S_below (Kd.S_drewN HO.out _) hB5)
                  have Q5 := Aside0.mk (Kd.R_below (Kd.R_drewN HRw.out _) hB5)
                  have zg := ZX.out
                  have hR6 := Kd.R_lower (Kd.R_mono (Kd.R_bound hR5) (ok' := fun k => g < k) (fun k h => by have h2 : wr.heap.size ≤ k := h.2.1; omega)) (show g + 1 ≤ (wr.drewN nd).heap.size from (show g + 1 ≤ wr.heap.size by omega))
                  have W5 := Aside0.mk hR6
                  clear hR5 hB5 HS HO HRw hR6 HCw HC8 D1 D2 hcut
                  obtain ⟨A1, c1, ea1⟩ := Kd.R_slice Q5.out
                  subst ea1
                  obtain ⟨A2_, c2, ea2⟩ := Kd.R_slice W5.out
                  subst ea2
                  have q40 : (a2.length : Int) = 4 := by omega
                  have q41 : (ws.length : Int) = 4 := by omega
                  have L40 := Lib.hid hl4
                  have L41 := Lib.hid hw4
                  clear q40 q41 hl4 hw4 x1 x2 HLenj hltj hzz hj
                  go_wp2_with fail
                  go_loopw [19] (fun v19 wr => ∃ (j : Nat) (p e : Int), j ≤ 4 ∧ v19 = .int .i64 j ∧ Aside0 (WrSd w wr g l0 p e) ∧ Aside0 (Kd.S k52 52 wr (g + 1) (fun k => g < k ∧ k < wx.heap.size) u8 acc) ∧ Aside0 (Kd.R (Kd.int .u8) 5 wr wx.heap.size (fun k => wx.heap.size ≤ k) (.slice A1 a2.length c1) a2) ∧ Aside0 (Kd.R (Kd.int .u8) 5 wr (g + 1) (fun k => g < k) (.slice A2_ ws.length c2) ws) ∧ Aside0 (rCmp l0 a2 ws ps (4 - j) j p e = some (pm, em))) (fun v19 _ => 4 - (intOf v19).toNat)
                  case atStart => exact ⟨0, p, 0, by omega, rfl, S5, O5, Q5, W5, ⟨A8.out⟩⟩
                  case round =>
                    clear S5 O5 Q5 W5 A8
                    obtain ⟨j, p, e, hj, rfl, HS, HO, HRs, HRt, HC⟩ := hrel
                    by_cases hltj : j < 4
                    · obtain ⟨d3, hd⟩ : ∃ d3, 4 - j = d3 + 1 := ⟨4 - j - 1, by omega⟩
                      have HDj := Lib.hid (show 4 - (j + 1) = d3 by omega)
                      have hh := HC.out
                      rw [hd, rCmp] at hh
                      have q0 : 0 ≤ (j : Int) := by omega
                      have q1 : (j : Int) < (a2.length : Int) := by have := L40.out; omega
                      have q2 : (j : Int) < (ws.length : Int) := by have := L41.out; omega
                      obtain ⟨ad1, ee1, y1⟩ := Kd.at_int (Kd.R_reads' HRs.out).2.2 (j : Int) q0 q1
                      cases ee1
                      obtain ⟨ad2, ee2, y2⟩ := Kd.at_int (Kd.R_reads' HRt.out).2.2 (j : Int) q0 q2
                      cases ee2
                      rw [Int.toNat_natCast] at y1 y2
                      have qi1 : (j < a2.length) = True := eq_true (by omega)
                      have qi2 : (j < ws.length) = True := eq_true (by omega)
                      replace q0 := eq_true q0
                      replace q1 := eq_true q1
                      replace q2 := eq_true q2
                      have HH := Lib.hid hh
                      clear hd hh HC
                      by_cases hne : rd a2 (j : Int) = rd ws (j : Int)
                      · have t1 : (rd a2 (j : Int) != rd ws (j : Int)) = false := bne_eq_false_iff_eq.mpr hne
                        have H9 := HH.out
                        rw [if_pos hne] at H9
                        have H10 := Aside0.mk H9
                        clear hne H9 HH
                        go_wp2_with fail
                        go_quiet (fail)
                        go_wp2
                        go_roundw
                        case rel => exact ⟨j + 1, p, e, by omega, by go_num, ⟨show WrSd w (wr.drewN _) g l0 p e from HS.out.below (pw_below_drewN (Below.refl _ _) _)⟩, ⟨Kd.S_drewN HO.out _⟩, ⟨Kd.R_drewN HRs.out _⟩, ⟨Kd.R_drewN HRt.out _⟩, ⟨by rw [HDj.out]; exact H10.out⟩⟩
                        case measure => simp [intOf]; omega
                      · have t1 : (rd a2 (j : Int) != rd ws (j : Int)) = true := by simpa using hne
                        have H9 := HH.out
                        rw [if_neg hne] at H9
                        obtain ⟨⟨p9, e9⟩, c9, H9⟩ := Option.bind_eq_some_iff.1 H9
                        have C9 : Hid (lexpriorref21_Reader_fail.f l0 p e 13 ps = some (p9, e9)) := Lib.hid c9
                        have H10 : Aside0 (rCmp l0 a2 ws ps d3 (j + 1) p9 e9 = some (pm, em)) := ⟨H9⟩
                        clear hne H9 HH c9
                        go_wp2_with fail
                        go_quiet (fail)
                        go_wp2_with fail
                        refine (lexpriorref21_Reader_fail.calls g l0 p e 13 ps p9 e9 w _ (by exact HS.out.I) (by exact pw_below_drewN HS.out.B _) C9.out).mono ?_
                        rintro ev w9 ⟨rfl, hI1, hB1, hK1⟩
                        have S9 := Aside0.mk (WrSd.mk hI1 hB1)
                        have O9 := Aside0.mk (Kd.S_keep (Kd.S_drewN HO.out _) hK1 (fun k hk => by omega))
                        have Q9 := Aside0.mk (Kd.R_keep (Kd.R_drewN HRs.out _) hK1 (fun k hk => by have := ZX.out; omega))
                        have W9 := Aside0.mk (Kd.R_keep (Kd.R_drewN HRt.out _) hK1 (fun k hk => by omega))
                        clear hI1 hB1 hK1 HS HO HRs HRt y1 y2
                        go_wp2
                        go_roundw
                        case rel => exact ⟨j + 1, p9, e9, by omega, by go_num, S9, O9, Q9, W9, ⟨by rw [HDj.out]; exact H10.out⟩⟩
                        case measure => simp [intOf]; omega
                    · obtain rfl : j = 4 := by omega
                      have hh : some (p, e) = some (pm, em) := HC.out
                      cases hh
                      clear HC HRs HRt
                      obtain ⟨x1, x2⟩ := HS.out.cells
                      by_cases he0 : em = 0
                      · subst he0
                        by_cases hlt9 : pm < (l0.length : Int)
                        · have d9 : decide (pm < (l0.length : Int)) = true := decide_eq_true hlt9
                          have h6 := A6.out
                          unfold rEnd at h6
                          rw [if_pos rfl, if_pos hlt9] at h6
                          have A7 : Hid (lexpriorref21_Reader_fail.f l0 pm 0 9 pm = some (pz, ez)) := Lib.hid h6
                          have hez : ez ≠ 0 := by
                            unfold lexpriorref21_Reader_fail.f at h6
                            rw [if_pos rfl] at h6
                            cases h6
                            decide
                          clear h6 A6
                          go_wp2_with fail
                          refine (lexpriorref21_Reader_fail.calls g l0 pm 0 9 pm pz ez w _ HS.out.I HS.out.B A7.out).mono ?_
                          rintro ev w9 ⟨rfl, hI1, hB1, hK1⟩
                          have HS := Aside0.mk (WrSd.mk hI1 hB1)
                          obtain ⟨x1, x2⟩ := HS.out.cells
                          have f9 : (ez != 0) = true := by simpa using hez
                          clear hI1 hB1 hK1 d9 hlt9
                          have hh := H.out
                          rw [if_neg hez] at hh
                          cases hh
                          clear H
                          go_wp2_with fail
                          go_quiet (fail)
                          go_wp2
                          refine bodyPost_ret (results_tmp3 rfl _ _ _) rfl ?_
                          exact ⟨_, rfl, Kd.S_nil _ _ _ _ _, by repeat (first | exact HS.out.B | apply pw_below_drewN)⟩
                        · have d9 : decide (pm < (l0.length : Int)) = false := decide_eq_false hlt9
                          have h6 := A6.out
                          unfold rEnd at h6
                          rw [if_pos rfl, if_neg hlt9] at h6
                          cases h6
                          have hh := H.out
                          rw [if_pos rfl] at hh
                          cases hh
                          clear H A6
                          obtain ⟨Ao8, co8, eo8⟩ := Kd.S_slice HO.out
                          subst eo8
                          go_wp2_with fail
                          refine bodyPost_ret (results_tmp3 rfl _ _ _) rfl ?_
                          exact ⟨_, rfl, Kd.S_lower (Kd.S_mono HO.out (fun _ _ => trivial)) (by have := HG.out; omega), HS.out.B⟩
                      · have h6 := A6.out
                        unfold rEnd at h6
                        rw [if_neg he0] at h6
                        cases h6
                        have hez : em ≠ 0 := he0
                        have f9 : (em != 0) = true := by simpa using hez
                        have f8 : (em == 0) = false := by simpa using hez
                        clear A6
                        have hh := H.out
                        rw [if_neg hez] at hh
                        cases hh
                        clear H
                        go_wp2_with fail
                        go_quiet (fail)
                        go_wp2
                        refine bodyPost_ret (results_tmp3 rfl _ _ _) rfl ?_
                        exact ⟨_, rfl, Kd.S_nil _ _ _ _ _, by repeat (first | exact HS.out.B | apply pw_below_drewN)⟩
                · have h5 := A5.out
                  unfold rMid at h5
                  rw [if_neg hes] at h5
                  replace h5 : some (p, e) = some (pm, em) := h5
                  cases h5
                  have he0 := hes
                  clear A5
                  have h6 := A6.out
                  unfold rEnd at h6
                  rw [if_neg he0] at h6
                  cases h6
                  have hez : em ≠ 0 := he0
                  have f9 : (em != 0) = true := by simpa using hez
                  have f8 : (em == 0) = false := by simpa using hez
                  clear A6
                  have hh := H.out
                  rw [if_neg hez] at hh
                  cases hh
                  clear H
                  go_wp2_with fail
                  go_quiet (fail)
                  go_wp2
                  refine bodyPost_ret (results_tmp3 rfl _ _ _) rfl ?_
                  exact ⟨_, rfl, Kd.S_nil _ _ _ _ _, by repeat (first | exact HS.out.B | apply pw_below_drewN)⟩
        · have FIN := Lib.hid (show rest = [] ∧ ps = p ∧ es = e by
            have hh := HL.out
            rw [show n.toNat - i = 0 by omega, rList] at hh
            cases hh
            exact ⟨rfl, rfl, rfl⟩)
          obtain ⟨hre0, hp0_, he0_⟩ := FIN.out
          subst hre0
          subst hp0_
          subst he0_
          have hcc0 := HA.out
          rw [List.append_nil] at hcc0
          subst hcc0
          clear FIN HA HL HLen
          go_wp2_with fail
          obtain ⟨wx, rfl⟩ : ∃ wx : World, wx = wr := ⟨_, rfl⟩
          have ZX := Aside0.mk (show g < wx.heap.size from HS.out.lt)
          go_loopw [16, 17] (fun v16 v17 wr => ∃ (j : Nat) (p e : Int) (a2 re : List Int), j ≤ 4 ∧ v17 = .int .i64 j ∧ Aside0 (WrSd w wr g l0 p e) ∧ Aside0 (Kd.S k52 52 wr (g + 1) (fun k => g < k ∧ k < wx.heap.size) u8 acc) ∧ Aside0 (Kd.R (Kd.int .u8) 5 wr wx.heap.size (fun k => wx.heap.size ≤ k) v16 a2) ∧ Aside0 (rSum l0 (4 - j) p e = some (re, pc, ec)) ∧ Aside0 (a2 ++ re = cs) ∧ Aside0 (a2.length = j) ∧ wx.heap.size ≤ wr.heap.size) (fun _ v17 _ => 4 - (intOf v17).toNat)
          case atStart => exact ⟨0, ps, es, [], cs, by omega, rfl, HS, ⟨Kd.S_mono (Kd.S_bound HO.out) (fun k hk => ⟨hk.1, by have := hk.2.2; omega⟩)⟩, ⟨Kd.R_nil _ _ _ _ _⟩, ⟨A4.out⟩, ⟨rfl⟩, ⟨rfl⟩, Nat.le_refl _⟩
          case round =>
            clear HS HO A4 x1 x2
            obtain ⟨j, p, e, a2, re, hj, rfl, HS, HO, HRw, HLj, HAj, HLenj, hzz⟩ := hrel
            obtain ⟨x1, x2⟩ := HS.out.cells
            by_cases hltj : j < 4
            · by_cases he : e = 0
              · subst he
                obtain ⟨d2, hd⟩ : ∃ d2, 4 - j = d2 + 1 := ⟨4 - j - 1, by omega⟩
                have hh := HLj.out
                rw [hd, rSum, if_pos rfl] at hh
                obtain ⟨⟨bq, pb, eb⟩, c2, hh⟩ := Option.bind_eq_some_iff.1 hh
                obtain ⟨⟨re', P2, E2⟩, c3, hh⟩ := Option.bind_eq_some_iff.1 hh
                replace hh : some (bq :: re', P2, E2) = some (re, pc, ec) := hh
                cases hh
                have Rb := byte_rng c2 (by decide) (by decide)
                have C2 : Hid (lexpriorref21_Reader_byte1.f l0 p 0 0 255 = some (bq, pb, eb)) := Lib.hid c2
                have C3 : Hid (rSum l0 d2 pb eb = some (re', pc, ec)) := Lib.hid c3
                have HDj := Lib.hid (show 4 - (j + 1) = d2 by omega)
                clear hd c2 c3 HLj
                go_wp2_with fail
                refine (lexpriorref21_Reader_byte1.calls g l0 p 0 0 255 bq pb eb w _ HS.out.I HS.out.B C2.out).mono ?_
                rintro ev w7 ⟨rfl, hI1, hB1, hK1⟩
                have U7 := Aside0.mk (WrSd.mk hI1 hB1)
                have Q7 := Aside0.mk (Kd.R_keep HRw.out hK1 (fun k hk => by have := ZX.out; omega))
                have O7 := Aside0.mk (Kd.S_keep HO.out hK1 (fun k hk => by omega))
                have Z7 := Aside0.mk (show wx.heap.size ≤ w7.heap.size from Nat.le_trans hzz hK1.1)
                clear hI1 hB1 hK1 HS HO HRw
                go_wp2_with ((with_reducible refine gate_builtin (b := .append) (xs := #[.tmp 109, .tmp 112]) rfl ?_); at_builtin; refine Kd.R_append (Kd.int .u8) (w0 := w7) wx.heap.size rfl (.tmp 109) (.tmp 112) 29 5 (.int .u8 0) 1 rfl Try.underlying29 info5 rfl (by decide) (by omega) u16 a2 bq [.int .u8 bq] (fun k => wx.heap.size ≤ k) (fun _ => False) rfl rfl ?aP (fun _ hk => hk.elim) ?aF ?aO ?aB ?aS ?aL ?_; (case aP => exact rfl); (case aF => exact fun k hk => by have := Z7.out; omega); (case aO => exact Q7.out); (case aB => exact Below.refl _ _); (case aS => have := Z7.out; omega); (case aL => rw [HLenj.out]; omega); intro v1 w8 hR1 hB1 hg1 hat1; obtain ⟨Ao, co, eo⟩ := Kd.R_slice hR1; subst eo; have U8 := Aside0.mk (U7.out.grown hg1 (fun k hk => by have := Q7.out.1 k hk; have := ZX.out; omega)); have O8 := Aside0.mk (Kd.S_grown O7.out hg1 (fun k hk e => by have := Q7.out.1 k e.symm; omega)); have R8 := Aside0.mk hR1; have Z8 := Aside0.mk (Nat.le_trans Z7.out hg1.size); clear hR1 hB1 hg1 hat1)
                have e8 : (a2 ++ [bq]).length = a2.length + 1 := by simp
                have R9 := R8.out
                rw [e8] at R9
                first
                | (refine ⟨⟨j + 1, pb, eb, a2 ++ [bq], re', by omega, rfl, U8, O8, ⟨R9⟩, ⟨by rw [HDj.out]; exact C3.out⟩, ⟨by rw [List.append_assoc]; exact HAj.out⟩, ⟨by rw [List.length_append, HLenj.out]; rfl⟩, Z8.out⟩, by simp [intOf]; omega⟩)
                | (go_roundw; (case rel => exact ⟨j + 1, pb, eb, a2 ++ [bq], re', by omega, by go_num, U8, O8, ⟨R9⟩, ⟨by rw [HDj.out]; exact C3.out⟩, ⟨by rw [List.append_assoc]; exact HAj.out⟩, ⟨by rw [List.length_append, HLenj.out]; rfl⟩, Z8.out⟩); (case measure => simp [intOf]; omega))
              · have FINj := Lib.hid (show re = [] ∧ p = pc ∧ e = ec by
                  have hh := HLj.out
                  obtain ⟨d2, hd⟩ : ∃ d2, 4 - j = d2 + 1 := ⟨4 - j - 1, by omega⟩
                  rw [hd, rSum, if_neg he] at hh
                  cases hh
                  exact ⟨rfl, rfl, rfl⟩)
                obtain ⟨hre, hp_, he_⟩ := FINj.out
                subst hre
                subst hp_
                subst he_
                have hcc := HAj.out
                rw [List.append_nil] at hcc
                subst hcc
                clear FINj HLj
                by_cases hes : e = 0
                · exact absurd hes he
                · have h5 := A5.out
                  unfold rMid at h5
                  rw [if_neg hes] at h5
                  replace h5 : some (p, e) = some (pm, em) := h5
                  cases h5
                  have he0 := hes
                  clear A5
                  have h6 := A6.out
                  unfold rEnd at h6
                  rw [if_neg he0] at h6
                  cases h6
                  have hez : em ≠ 0 := he0
                  have f9 : (em != 0) = true := by simpa using hez
                  have f8 : (em == 0) = false := by simpa using hez
                  clear A6
                  have hh := H.out
                  rw [if_neg hez] at hh
                  cases hh
                  clear H
                  go_wp2_with fail
                  go_quiet (fail)
                  go_wp2
                  refine bodyPost_ret (results_tmp3 rfl _ _ _) rfl ?_
                  exact ⟨_, rfl, Kd.S_nil _ _ _ _ _, by repeat (first | exact HS.out.B | apply pw_below_drewN)⟩
            · have FINj := Lib.hid (show re = [] ∧ p = pc ∧ e = ec by
                have hh := HLj.out
                rw [show 4 - j = 0 by omega, rSum] at hh
                cases hh
                exact ⟨rfl, rfl, rfl⟩)
              obtain ⟨hre, hp_, he_⟩ := FINj.out
              subst hre
              subst hp_
              subst he_
              have hcc := HAj.out
              rw [List.append_nil] at hcc
              subst hcc
              clear FINj HLj
              by_cases hes : e = 0
              · subst hes
                have h5 := A5.out
                unfold rMid at h5
                rw [if_pos rfl] at h5
                by_cases hlen : a2.length = 4 ∧ 0 ≤ ps ∧ ps ≤ (l0.length : Int)
                rotate_left
                · rw [if_neg (by exact hlen)] at h5
                  cases h5
                rw [if_pos (by exact hlen)] at h5
                obtain ⟨hl4, hps0, hps1⟩ := hlen
                obtain ⟨sm, d1, h5⟩ := Option.bind_eq_some_iff.1 h5
                obtain ⟨ws, d2, h5⟩ := Option.bind_eq_some_iff.1 h5
                by_cases hw4 : ws.length = 4
                rotate_left
                · rw [if_neg hw4] at h5
                  cases h5
                rw [if_pos hw4] at h5
                have A8 : Hid (rCmp l0 a2 ws ps 4 0 p 0 = some (pm, em)) := Lib.hid h5
                have D2 : Hid (lexpriorref21_Little.f sm = some ws) := Lib.hid d2
                obtain ⟨i08, hi08, _, hsz8, _⟩ := info_parts octets_ReadUint.info
                obtain ⟨hcut, hA8, hC8⟩ := print_take_of (P := Try.prog) (Value.int .u8) 0 29 5 .i64 Try.underlying29 hi08 hsz8 A0 c0 l0 ps hps0 hps1 HC0.out
                obtain ⟨lt, elt⟩ : ∃ lt, l0.take ps.toNat = lt := ⟨_, rfl⟩
                rw [elt] at hcut hA8 hC8 d1
                have D1 : Hid (lexpriorref01_Sum.f k lt = some sm) := Lib.hid d1
                have HC8 := Aside0.mk hC8
                have HCw : Aside0 (Kd.C (Kd.int .u8) wr A0 lt.length lt) := ⟨Kd.C_of_reads (h1 := fun _ => rfl) (hA8 _ (Kd.reads_of_C (Kd.C_below HR0.out HS.out.B)))⟩
                clear h5 d1 d2 hA8 hC8 hi08 hsz8 elt A5
                go_wp2_with (first | (go_at_call 28; refine (lexpriorref01_Sum.calls k A0 c0 lt sm _ HCw.out HC8.out D1.out).mono ?_; rintro ev w5 ⟨rfl, ⟨nd, rfl⟩⟩))
                refine (lexpriorref21_Little.calls sm ws _ D2.out).mono ?_
                rintro ev w5 ⟨v5, rfl, hR5, hB5⟩
                have S5 := Aside0.mk ((show WrSd w (wr.drewN nd) g l0 p 0 from HS.out.below (pw_below_drewN (Below.refl _ _) nd)).below hB5)
                have O5 := Aside0.mk (Kd.S_below (Kd.S_drewN HO.out _) hB5)
                have Q5 := Aside0.mk (Kd.R_below (Kd.R_drewN HRw.out _) hB5)
                have zg := ZX.out
                have hR6 := Kd.R_lower (Kd.R_mono (Kd.R_bound hR5) (ok' := fun k => g < k) (fun k h => by have h2 : wr.heap.size ≤ k := h.2.1; omega)) (show g + 1 ≤ (wr.drewN nd).heap.size from (show g + 1 ≤ wr.heap.size by omega))
                have W5 := Aside0.mk hR6
                clear hR5 hB5 HS HO HRw hR6 HCw HC8 D1 D2 hcut
                obtain ⟨A1, c1, ea1⟩ := Kd.R_slice Q5.out
                subst ea1
                obtain ⟨A2_, c2, ea2⟩ := Kd.R_slice W5.out
                subst ea2
                have q40 : (a2.length : Int) = 4 := by omega
                have q41 : (ws.length : Int) = 4 := by omega
                have L40 := Lib.hid hl4
                have L41 := Lib.hid hw4
                clear q40 q41 hl4 hw4 x1 x2 HLenj hltj hzz hj
                go_wp2_with fail
                go_loopw [19] (fun v19 wr => ∃ (j : Nat) (p e : Int), j ≤ 4 ∧ v19 = .int .i64 j ∧ Aside0 (WrSd w wr g l0 p e) ∧ Aside0 (Kd.S k52 52 wr (g + 1) (fun k => g < k ∧ k < wx.heap.size) u8 acc) ∧ Aside0 (Kd.R (Kd.int .u8) 5 wr wx.heap.size (fun k => wx.heap.size ≤ k) (.slice A1 a2.length c1) a2) ∧ Aside0 (Kd.R (Kd.int .u8) 5 wr (g + 1) (fun k => g < k) (.slice A2_ ws.length c2) ws) ∧ Aside0 (rCmp l0 a2 ws ps (4 - j) j p e = some (pm, em))) (fun v19 _ => 4 - (intOf v19).toNat)
                case atStart => exact ⟨0, p, 0, by omega, rfl, S5, O5, Q5, W5, ⟨A8.out⟩⟩
                case round =>
                  clear S5 O5 Q5 W5 A8
                  obtain ⟨j, p, e, hj, rfl, HS, HO, HRs, HRt, HC⟩ := hrel
                  by_cases hltj : j < 4
                  · obtain ⟨d3, hd⟩ : ∃ d3, 4 - j = d3 + 1 := ⟨4 - j - 1, by omega⟩
                    have HDj := Lib.hid (show 4 - (j + 1) = d3 by omega)
                    have hh := HC.out
                    rw [hd, rCmp] at hh
                    have q0 : 0 ≤ (j : Int) := by omega
                    have q1 : (j : Int) < (a2.length : Int) := by have := L40.out; omega
                    have q2 : (j : Int) < (ws.length : Int) := by have := L41.out; omega
                    obtain ⟨ad1, ee1, y1⟩ := Kd.at_int (Kd.R_reads' HRs.out).2.2 (j : Int) q0 q1
                    cases ee1
                    obtain ⟨ad2, ee2, y2⟩ := Kd.at_int (Kd.R_reads' HRt.out).2.2 (j : Int) q0 q2
                    cases ee2
                    rw [Int.toNat_natCast] at y1 y2
                    have qi1 : (j < a2.length) = True := eq_true (by omega)
                    have qi2 : (j < ws.length) = True := eq_true (by omega)
                    replace q0 := eq_true q0
                    replace q1 := eq_true q1
                    replace q2 := eq_true q2
                    have HH := Lib.hid hh
                    clear hd hh HC
                    by_cases hne : rd a2 (j : Int) = rd ws (j : Int)
                    · have t1 : (rd a2 (j : Int) != rd ws (j : Int)) = false := bne_eq_false_iff_eq.mpr hne
                      have H9 := HH.out
                      rw [if_pos hne] at H9
                      have H10 := Aside0.mk H9
                      clear hne H9 HH
                      go_wp2_with fail
                      go_quiet (fail)
                      go_wp2
                      go_roundw
                      case rel => exact ⟨j + 1, p, e, by omega, by go_num, ⟨show WrSd w (wr.drewN _) g l0 p e from HS.out.below (pw_below_drewN (Below.refl _ _) _)⟩, ⟨Kd.S_drewN HO.out _⟩, ⟨Kd.R_drewN HRs.out _⟩, ⟨Kd.R_drewN HRt.out _⟩, ⟨by rw [HDj.out]; exact H10.out⟩⟩
                      case measure => simp [intOf]; omega
                    · have t1 : (rd a2 (j : Int) != rd ws (j : Int)) = true := by simpa using hne
                      have H9 := HH.out
                      rw [if_neg hne] at H9
                      obtain ⟨⟨p9, e9⟩, c9, H9⟩ := Option.bind_eq_some_iff.1 H9
                      have C9 : Hid (lexpriorref21_Reader_fail.f l0 p e 13 ps = some (p9, e9)) := Lib.hid c9
                      have H10 : Aside0 (rCmp l0 a2 ws ps d3 (j + 1) p9 e9 = some (pm, em)) := ⟨H9⟩
                      clear hne H9 HH c9
                      go_wp2_with fail
                      go_quiet (fail)
                      go_wp2_with fail
                      refine (lexpriorref21_Reader_fail.calls g l0 p e 13 ps p9 e9 w _ (by exact HS.out.I) (by exact pw_below_drewN HS.out.B _) C9.out).mono ?_
                      rintro ev w9 ⟨rfl, hI1, hB1, hK1⟩
                      have S9 := Aside0.mk (WrSd.mk hI1 hB1)
                      have O9 := Aside0.mk (Kd.S_keep (Kd.S_drewN HO.out _) hK1 (fun k hk => by omega))
                      have Q9 := Aside0.mk (Kd.R_keep (Kd.R_drewN HRs.out _) hK1 (fun k hk => by have := ZX.out; omega))
                      have W9 := Aside0.mk (Kd.R_keep (Kd.R_drewN HRt.out _) hK1 (fun k hk => by omega))
                      clear hI1 hB1 hK1 HS HO HRs HRt y1 y2
                      go_wp2
                      go_roundw
                      case rel => exact ⟨j + 1, p9, e9, by omega, by go_num, S9, O9, Q9, W9, ⟨by rw [HDj.out]; exact H10.out⟩⟩
                      case measure => simp [intOf]; omega
                  · obtain rfl : j = 4 := by omega
                    have hh : some (p, e) = some (pm, em) := HC.out
                    cases hh
                    clear HC HRs HRt
                    obtain ⟨x1, x2⟩ := HS.out.cells
                    by_cases he0 : em = 0
                    · subst he0
                      by_cases hlt9 : pm < (l0.length : Int)
                      · have d9 : decide (pm < (l0.length : Int)) = true := decide_eq_true hlt9
                        have h6 := A6.out
                        unfold rEnd at h6
                        rw [if_pos rfl, if_pos hlt9] at h6
                        have A7 : Hid (lexpriorref21_Reader_fail.f l0 pm 0 9 pm = some (pz, ez)) := Lib.hid h6
                        have hez : ez ≠ 0 := by
                          unfold lexpriorref21_Reader_fail.f at h6
                          rw [if_pos rfl] at h6
                          cases h6
                          decide
                        clear h6 A6
                        go_wp2_with fail
                        refine (lexpriorref21_Reader_fail.calls g l0 pm 0 9 pm pz ez w _ HS.out.I HS.out.B A7.out).mono ?_
                        rintro ev w9 ⟨rfl, hI1, hB1, hK1⟩
                        have HS := Aside0.mk (WrSd.mk hI1 hB1)
                        obtain ⟨x1, x2⟩ := HS.out.cells
                        have f9 : (ez != 0) = true := by simpa using hez
                        clear hI1 hB1 hK1 d9 hlt9
                        have hh := H.out
                        rw [if_neg hez] at hh
                        cases hh
                        clear H
                        go_wp2_with fail
                        go_quiet (fail)
                        go_wp2
                        refine bodyPost_ret (results_tmp3 rfl _ _ _) rfl ?_
                        exact ⟨_, rfl, Kd.S_nil _ _ _ _ _, by repeat (first | exact HS.out.B | apply pw_below_drewN)⟩
                      · have d9 : decide (pm < (l0.length : Int)) = false := decide_eq_false hlt9
                        have h6 := A6.out
                        unfold rEnd at h6
                        rw [if_pos rfl, if_neg hlt9] at h6
                        cases h6
                        have hh := H.out
                        rw [if_pos rfl] at hh
                        cases hh
                        clear H A6
                        obtain ⟨Ao8, co8, eo8⟩ := Kd.S_slice HO.out
                        subst eo8
                        go_wp2_with fail
                        refine bodyPost_ret (results_tmp3 rfl _ _ _) rfl ?_
                        exact ⟨_, rfl, Kd.S_lower (Kd.S_mono HO.out (fun _ _ => trivial)) (by have := HG.out; omega), HS.out.B⟩
                    · have h6 := A6.out
                      unfold rEnd at h6
                      rw [if_neg he0] at h6
                      cases h6
                      have hez : em ≠ 0 := he0
                      have f9 : (em != 0) = true := by simpa using hez
                      have f8 : (em == 0) = false := by simpa using hez
                      clear A6
                      have hh := H.out
                      rw [if_neg hez] at hh
                      cases hh
                      clear H
                      go_wp2_with fail
                      go_quiet (fail)
                      go_wp2
                      refine bodyPost_ret (results_tmp3 rfl _ _ _) rfl ?_
                      exact ⟨_, rfl, Kd.S_nil _ _ _ _ _, by repeat (first | exact HS.out.B | apply pw_below_drewN)⟩
              · have h5 := A5.out
                unfold rMid at h5
                rw [if_neg hes] at h5
                replace h5 : some (p, e) = some (pm, em) := h5
                cases h5
                have he0 := hes
                clear A5
                have h6 := A6.out
                unfold rEnd at h6
                rw [if_neg he0] at h6
                cases h6
                have hez : em ≠ 0 := he0
                have f9 : (em != 0) = true := by simpa using hez
                have f8 : (em == 0) = false := by simpa using hez
                clear A6
                have hh := H.out
                rw [if_neg hez] at hh
                cases hh
                clear H
                go_wp2_with fail
                go_quiet (fail)
                go_wp2
                refine bodyPost_ret (results_tmp3 rfl _ _ _) rfl ?_
                exact ⟨_, rfl, Kd.S_nil _ _ _ _ _, by repeat (first | exact HS.out.B | apply pw_below_drewN)⟩


end Go.Proofs.Ytccoeecladhfmaa.P
