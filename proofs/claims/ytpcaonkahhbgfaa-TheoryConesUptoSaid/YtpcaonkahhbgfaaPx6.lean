-- Written by lexprint.py, a program of this session's own that runs the kit's print with turned rows. Lean checks it.
import Derived.Test.YtpcaonkahhbgfaaPx0
import Derived.Test.YtpcaonkahhbgfaaPx1
import Derived.Test.YtpcaonkahhbgfaaPx5
namespace Go.Proofs.Ytpcaonkahhbgfaa.P
open Go.RowKit Go.Proofs.YtpcaonkahhbgfaaW.PrintWords Go.Proofs.YtpcaonkahhbgfaaW.PrintLast Go.Proofs.YtpcaonkahhbgfaaW.PrintMore
attribute [local go_sem] max2_int min2_int max_two min_two
set_option linter.unusedVariables false
set_option linter.unusedSimpArgs false

/-! ### theory_Encode: function 10 -/
/-- The bytes of a number that the closure puts behind the row in variable b. -/
structure PutSt (w0 W : World) (b base : Nat) (v : Value) (xs : List Int) : Prop where
  blk : W.heap[b]? = some (.cells #[v] 41 (0, 0))
  row : Kd.R (Kd.int .u8) 5 W base (fun k => base ≤ k) v xs
  below : Below w0.heap.size w0 W
  hb : w0.heap.size ≤ b
  lt : b < base
  sz : base ≤ W.heap.size
set_option maxHeartbeats 1000000 in
theorem put_any (k b base : Nat) (n : Int) (xs ys : List Int) (v : Value) (w0 w : World) (hS : PutSt w0 w b base v xs) (hy : octets_Uint.f k (IntKind.u64.wrap n) = some ys) (hl : xs.length + ys.length ≤ 140737488355328) :
    Calls Try.prog 22 #[.int .i64 n, .pointer (some ⟨b, 0, none⟩)] w fun e w' => e = .returned (.tuple #[]) ∧ ∃ v', PutSt w0 w' b base v' (xs ++ ys) ∧ KeepBut w w' b v.ownBlock := by
  obtain ⟨Av, cv, ev⟩ := Kd.R_slice hS.row
  subst ev
  have hU : ∀ W, Calls Try.prog 23 #[.int .u64 (IntKind.u64.wrap n)] W _ := fun W => octets_Uint.calls k _ ys W hy
  have HU := Aside0.mk hU
  have HS := Aside0.mk hS
  have c0 : w.cell? ⟨b, 0, none⟩ = some (.slice Av xs.length cv) := (blk_cell hS.blk 0).trans rfl
  have f0 := blk_frozen hS.blk 0
  clear hU hS hy
  go_enter Try.func22, Try.ntmps22
  go_wp2_with fail
  go_region_law (first | (refine Kd.R_append_rows_step (Kd.int .u8) (Rr := (Kd.int .u8).K w1) (w0 := w1) base (by simp [Region.wanted]) (.tmp 3) (.tmp 6) 41 5 (.int .u8 0) 1 rfl Try.underlying41 info5 rfl (by decide) (by omega) (.slice Av xs.length cv) xs ys Ay ys.length cy (fun k => base ≤ k) (fun _ => False) rfl rfl R1.out C1.out (fun _ _ h => h) (fun _ h => h.elim) Z1.out (Below.refl _ _) (Z1.out _ (Nat.le_refl _)) (by omega) ?_; intro v1 w2 hR1 hB1 hg1 hat1; obtain ⟨Ao, co, eo⟩ := Kd.R_slice hR1; subst eo; have R2 := Aside0.mk hR1; have G2 := Aside0.mk hg1; have K2 := Aside0.mk (blk_grown B1.out hg1 (fun e => by have := HS.out.row.1 b e.symm; have := HS.out.lt; omega)); have c2 : w2.cell? ⟨b, 0, none⟩ = some (.slice Av xs.length cv) := (blk_cell K2.out 0).trans rfl; have f2 := blk_frozen K2.out 0; clear hR1 hB1 hg1 hat1) | (go_simp; go_at_call 23; refine (HU.out _).mono ?_; rintro e w1 ⟨vy, rfl, hR, hb⟩; obtain ⟨Ay, cy, ey⟩ := Kd.R_slice hR; subst ey; have N1 := Aside0.mk (below_step (w := w) (by repeat (first | exact Below.refl _ _ | apply below_drew | apply pw_below_drewN)) hb); have C1 := Aside0.mk (Kd.R_reads' hR).2.2; have R1 := Aside0.mk (Kd.R_below HS.out.row N1.out); have Z1 := Aside0.mk (show ∀ k, w1.heap.size ≤ k → base ≤ k from fun k hk => by have := HS.out.sz; have := N1.out.size; omega); have B1 := Aside0.mk (blk_below HS.out.blk N1.out); have c1 : w1.cell? ⟨b, 0, none⟩ = some (.slice Av xs.length cv) := (blk_cell B1.out 0).trans rfl; clear hR hb))
  all_goals
    go_end0
    have e8 : (xs ++ ys).length = xs.length + ys.length := by simp
    have R9 := R2.out
    rw [e8] at R9
    have hbs := HS.out.hb
    have hlt := HS.out.lt
    have hsz := HS.out.sz
    have B2 : Below w0.heap.size w0 w2 := (below_step HS.out.below N1.out).grown G2.out (by have := N1.out.size; have := HS.out.below.size; omega) (fun k hk => by have := HS.out.row.1 k hk; omega)
    refine ⟨rfl, _, ⟨blk_put K2.out 0 _ rfl, Kd.R_far (p := ⟨b, 0, none⟩) R9 (fun k hk => by simp only; omega) _, B2.setCell hbs _, hbs, hlt, by simp only [World.size_setCell]; have := N1.out.size; have := G2.out.size; omega⟩, ?_⟩
    exact KeepBut.set_ ((KeepBut.of_below N1.out b _).trans (KeepBut.of_grown G2.out b) (.inl rfl)) 0 _
theorem C_cells {w : World} {ad : Addr} {ys : List Int} (h : Kd.C (Kd.int .u8) w (some ad) ys.length ys) : ∀ j u, (nums .u8 ys)[j]? = some u → w.cell? (ad.add j) = some u := fun j u hu => by
  have hj : j < ys.length := by have := (List.getElem?_eq_some_iff.1 hu).1; rwa [nums_length] at this
  obtain ⟨ad', e, hc⟩ := (Kd.reads_of_C (d := (0 : Int)) h).2.2 (by omega)
  cases e
  rw [hc j hj, ← hu]
  simp [nums, List.getElem?_eq_getElem hj, List.getD_eq_getElem?_getD]
theorem head_cells {w : World} {g : Nat} (h : w.heap[g]? = some (.cells #[.int .u8 116, .int .u8 104, .int .u8 121, .int .u8 1] 5 (4, 5))) (j : Nat) (u : Value) (hu : (nums .u8 [116, 104, 121, 1])[j]? = some u) : w.cell? ((⟨g, 0, none⟩ : Addr).add j) = some u := by
  rw [add_plain, cell_of_row w g j _ _ _ h, ← hu]
  simp [nums]
theorem own_R {w : World} {B base : Nat} {v : Value} {xs : List Int} {n : Nat} {zs : List Value} (h : w.ownsRow B 5 1 v n zs) (hz : zs = nums .u8 xs) (hn : n = xs.length) (hb : base ≤ B) : Kd.R (Kd.int .u8) 5 w base (fun k => base ≤ k) v xs := by
  subst hz hn
  exact Kd.R_mono (Kd.R_bound (Kd.R_lower (Kd.R_of_own (enc := Value.int .u8) (h1 := fun _ => rfl) (ok := fun _ => True) h (fun _ _ => trivial)) hb)) (fun k hk => hk.2.1)
set_option maxHeartbeats 1000000 in
theorem put_first (k b base g : Nat) (n : Int) (ys : List Int) (w0 w : World) (hbk : w.heap[b]? = some (.cells #[.slice (some ⟨g, 0, none⟩) 4 4] 41 (0, 0))) (hgk : w.heap[g]? = some (.cells #[.int .u8 116, .int .u8 104, .int .u8 121, .int .u8 1] 5 (4, 5))) (hB : Below w0.heap.size w0 w) (hwb : w0.heap.size ≤ b) (hlt : b < base) (hsz : base ≤ w.heap.size)
    (hy : octets_Uint.f k (IntKind.u64.wrap n) = some ys) (hp : 0 < ys.length) (hl : 4 + ys.length ≤ 140737488355328) :
    Calls Try.prog 22 #[.int .i64 n, .pointer (some ⟨b, 0, none⟩)] w fun e w' => e = .returned (.tuple #[]) ∧ ∃ v', PutSt w0 w' b base v' ([116, 104, 121, 1] ++ ys) ∧ KeepBut w w' b none := by
  have hU : ∀ W, Calls Try.prog 23 #[.int .u64 (IntKind.u64.wrap n)] W _ := fun W => octets_Uint.calls k _ ys W hy
  have HU := Aside0.mk hU
  have c0 : w.cell? ⟨b, 0, none⟩ = some (.slice (some ⟨g, 0, none⟩) 4 4) := (blk_cell hbk 0).trans rfl
  have f0 := blk_frozen hbk 0
  have HBK := Aside0.mk hbk
  have HGK := Aside0.mk hgk
  have HB := Aside0.mk hB
  obtain ⟨i5, hi5, hz5, hs5, hb5⟩ := info_parts info5
  have I5 := Aside0.mk (And.intro hi5 (And.intro hz5 (And.intro hs5 hb5)))
  clear hU hy hbk hgk hB hi5 hz5 hs5 hb5
  go_enter Try.func22, Try.ntmps22
  go_wp2_with fail
  go_region_law (first | (refine step_append_grows rfl (.tmp 3) (.tmp 6) 41 rfl 5 i5 (.int .u8 0) 1 1 Try.underlying41 I5.out.1 I5.out.2.1 I5.out.2.2.1 I5.out.2.2.2 rfl (by decide) (some ⟨g, 0, none⟩) 4 4 (nums .u8 [116, 104, 121, 1]) rfl (fun e => by cases e) rfl D1.out ay ys.length cy (nums .u8 ys) rfl (by rw [nums_length, Nat.mul_one]) C1.out (fun u hu => by obtain ⟨x, _, rfl⟩ := List.mem_map.1 hu; rfl) (by omega) (by unfold maxLen; omega) (by omega) ?_; intro v1 w2 ho1 hg1; have R2 := Aside0.mk (own_R (xs := [116, 104, 121, 1] ++ ys) ho1 (by rw [← nums_append]) (by simp; omega) Z1.out); obtain ⟨Ao, co, eo⟩ := Kd.R_slice R2.out; subst eo; have G2 := Aside0.mk hg1; have K2 := Aside0.mk (blk_grown B1.out hg1 (by simp)); have c2 : w2.cell? ⟨b, 0, none⟩ = some (.slice (some ⟨g, 0, none⟩) 4 4) := (blk_cell K2.out 0).trans rfl; have f2 := blk_frozen K2.out 0; clear ho1 hg1) | (go_simp; go_at_call 23; refine (HU.out _).mono ?_; rintro e w1 ⟨vy, rfl, hR, hb⟩; obtain ⟨gy, cy, ey, _⟩ := Kd.R_form hR hp; subst ey; obtain ⟨ay, hay⟩ : ∃ ay : Addr, ay = ⟨gy, 0, none⟩ := ⟨_, rfl⟩; rw [← hay] at hR ⊢; have N1 := Aside0.mk (below_step (w := w) (by repeat (first | exact Below.refl _ _ | apply below_drew | apply pw_below_drewN)) hb); have C1 := Aside0.mk (C_cells (Kd.R_reads' hR).2.2); have D1 : Aside0 (∀ b, some (⟨g, 0, none⟩ : Addr) = some b → ∀ j u, (nums .u8 [116, 104, 121, 1])[j]? = some u → w1.cell? (b.add j) = some u) := ⟨fun b e j u hu => by cases e; exact head_cells (blk_below HGK.out N1.out) j u hu⟩; have Z1 := Aside0.mk (show base ≤ w1.heap.size by have := N1.out.size; omega); have B1 := Aside0.mk (blk_below HBK.out N1.out); have c1 : w1.cell? ⟨b, 0, none⟩ = some (.slice (some ⟨g, 0, none⟩) 4 4) := (blk_cell B1.out 0).trans rfl; clear hR hb hay))
  all_goals
    go_end0
    have e8 : ([116, 104, 121, 1] ++ ys : List Int).length = ys.length + 1 + 1 + 1 + 1 := rfl
    have R9 := R2.out
    rw [e8] at R9
    have B2 : Below w0.heap.size w0 w2 := (below_step HB.out N1.out).grown G2.out (by have := N1.out.size; have := HB.out.size; omega) (fun k hk => by cases hk)
    refine ⟨rfl, _, ⟨blk_put K2.out 0 _ rfl, Kd.R_far (p := ⟨b, 0, none⟩) R9 (fun k hk => by simp only; omega) _, B2.setCell hwb _, hwb, hlt, by simp only [World.size_setCell]; have := N1.out.size; have := G2.out.size; omega⟩, ?_⟩
    exact KeepBut.set_ ((KeepBut.of_below N1.out b _).trans (KeepBut.of_grown G2.out b) (.inl rfl)) 0 _

def uuF (k : Nat) (n : Int) : Option (List Int) := octets_Uint.f k (IntKind.u64.wrap n)
theorem PutSt.step {w0 W W1 : World} {b base : Nat} {v : Value} {xs : List Int} (h : PutSt w0 W b base v xs) (hb : Below W.heap.size W W1) : PutSt w0 W1 b base v xs :=
  ⟨blk_below h.blk hb, Kd.R_below h.row hb, below_step h.below hb, h.hb, h.lt, Nat.le_trans h.sz hb.size⟩
theorem PutSt.keep_blk {w0 W W1 : World} {b base g t : Nat} {v : Value} {xs : List Int} {cs : Array Value} (h : PutSt w0 W b base v xs) (hK : KeepBut W W1 b v.ownBlock) (hb : W.heap[g]? = some (.cells cs t (0, 0))) (ht : 5 ≠ t) (hne : g ≠ b) : W1.heap[g]? = some (.cells cs t (0, 0)) :=
  hK.blk hb hne (Kd.R_ne h.row hb ht)
/-- Blocks of other types stay. -/
def Keeps (w w' : World) (b : Nat) : Prop := ∀ (g t : Nat) (cs : Array Value), w.heap[g]? = some (.cells cs t (0, 0)) → 5 ≠ t → g ≠ b → w'.heap[g]? = some (.cells cs t (0, 0))
theorem Keeps.refl (w : World) (b : Nat) : Keeps w w b := fun _ _ _ h _ _ => h
theorem Keeps.trans {w w' w'' : World} {b : Nat} (h : Keeps w w' b) (h' : Keeps w' w'' b) : Keeps w w'' b := fun g t cs hb ht hne => h' g t cs (h g t cs hb ht hne) ht hne
theorem Keeps.drewN (w : World) (b n : Nat) : Keeps w (w.drewN n) b := fun g t cs h _ _ => blk_below h (pw_below_drewN (Below.refl _ _) n)
def numsB (k : Nat) : List Int → Option (List Int)
  | [] => some []
  | x :: l => (uuF k x).bind fun a => (numsB k l).bind fun b => some (a ++ b)
def lisB (k : Nat) (l : List Int) : Option (List Int) := (uuF k (l.length : Int)).bind fun a => (numsB k l).bind fun b => some (a ++ b)
set_option maxHeartbeats 1000000 in
theorem put_keep (k b base : Nat) (n : Int) (xs ys : List Int) (v : Value) (w0 w : World) (hS : PutSt w0 w b base v xs) (hy : uuF k n = some ys) (hl : xs.length + ys.length ≤ 140737488355328) :
    Calls Try.prog 22 #[.int .i64 n, .pointer (some ⟨b, 0, none⟩)] w fun e w' => e = .returned (.tuple #[]) ∧ ∃ v', PutSt w0 w' b base v' (xs ++ ys) ∧ Keeps w w' b :=
  (put_any k b base n xs ys v w0 w hS hy hl).mono fun e w' ⟨he, v', hP, hK⟩ => ⟨he, v', hP, fun g t cs hb ht hne => hS.keep_blk hK hb ht hne⟩
set_option maxHeartbeats 4000000 in
theorem list_any (k b base F : Nat) (A : Option Addr) (c ln : Nat) (l xs ys : List Int) (hln : ln = l.length) (v : Value) (w0 w : World) (hS : PutSt w0 w b base v xs) (hF : w.heap[F]? = some (.cells #[.func (.func 22) #[] #[.pointer (some ⟨b, 0, none⟩)]] 56 (0, 0))) (hFb : F ≠ b) (hr : Kd.C (Kd.int .i64) w0 A l.length l) (hy : lisB k l = some ys) (hl : xs.length + ys.length ≤ 140737488355328) :
    Calls Try.prog 24 #[.slice A ln c, .pointer (some ⟨F, 0, none⟩)] w fun e w' => e = .returned (.tuple #[]) ∧ ∃ v', PutSt w0 w' b base v' (xs ++ ys) ∧ Keeps w w' b := by
  subst hln
  obtain ⟨ya, hya, hy⟩ := Option.bind_eq_some_iff.1 hy
  obtain ⟨yb, hyb, hy⟩ := Option.bind_eq_some_iff.1 hy
  obtain rfl := Option.some.inj hy
  have hmx := Kd.C_max hr
  rw [List.length_append] at hl
  have HA := Aside0.mk hya
  have HB := Aside0.mk hyb
  have HS := Aside0.mk hS
  have HF := Aside0.mk hF
  have HR := Aside0.mk hr
  have HN := Aside0.mk hFb
  have HL := Aside0.mk hl
  have c0 : w.cell? ⟨F, 0, none⟩ = some (.func (.func 22) #[] #[.pointer (some ⟨b, 0, none⟩)]) := (blk_cell hF 0).trans rfl
  clear hya hyb hy hS hF hr hFb hl
  go_enter Try.func24, Try.ntmps24
  go_wp2_with fail
  refine (put_keep k b base (l.length : Int) xs ya v w0 w HS.out HA.out (by have := HL.out; omega)).mono ?_
  rintro e w1 ⟨rfl, v1, hP, hK⟩
  have P1 := Aside0.mk hP
  have K1 := Aside0.mk hK
  clear hP hK c0
  go_wp2_with fail
  go_loopw [11] (fun v11 wr => ∃ (j : Nat) (vj : Value) (zs rest : List Int), v11 = .int .i64 j ∧ j ≤ l.length ∧ Aside0 (PutSt w0 wr b base vj zs) ∧ Aside0 (Keeps w wr b) ∧ Aside0 (numsB k (l.drop j) = some rest) ∧ Aside0 (zs ++ rest = xs ++ (ya ++ yb))) (fun v11 _ => l.length - (intOf v11).toNat)
  case atStart => exact ⟨0, v1, xs ++ ya, yb, rfl, Nat.zero_le _, P1, K1, ⟨by rw [List.drop_zero]; exact HB.out⟩, ⟨by simp⟩⟩
  case round =>
    clear P1 K1 HB HA
    obtain ⟨j, vj, zs, rest, rfl, hj, HP, HK, HNB, HE⟩ := hrel
    by_cases hlt : j < l.length
    · have hn := HNB.out
      rw [dropR hlt] at hn
      obtain ⟨a, ha, hn⟩ := Option.bind_eq_some_iff.1 hn
      obtain ⟨r2, hr2, hn⟩ := Option.bind_eq_some_iff.1 hn
      obtain rfl := Option.some.inj hn
      obtain ⟨ad, rfl, hel⟩ := Kd.at_int (Kd.C_below HR.out HP.out.below) (j : Int) (by omega) (by omega)
      simp only [Int.toNat_natCast] at hel
      have hF := HK.out F _ _ HF.out (by decide) HN.out
      have c0 : wr.cell? ⟨F, 0, none⟩ = some (.func (.func 22) #[] #[.pointer (some ⟨b, 0, none⟩)]) := (blk_cell hF 0).trans rfl
      have HA := Aside0.mk ha
      have HR2 := Aside0.mk hr2
      have hle : zs.length + a.length ≤ 140737488355328 := by
        have := congrArg List.length HE.out
        have := HL.out
        simp only [List.length_append] at *
        omega
      have HLE := Aside0.mk hle
      clear ha hr2 hn hF hle HNB
      go_wp2_with fail
      refine (put_keep k b base (rd l (j : Int)) zs a vj w0 wr HP.out HA.out HLE.out).mono ?_
      rintro e w2 ⟨rfl, v2, hP, hK⟩
      have P2 := Aside0.mk hP
      have K2 := Aside0.mk (HK.out.trans hK)
      have HE2 := Aside0.mk (show (zs ++ a) ++ r2 = xs ++ (ya ++ yb) by rw [← HE.out]; simp)
      clear hP hK hel c0 HE
      go_wp2_with fail
      go_roundw
      case rel => exact ⟨j + 1, v2, _, r2, by go_num, by omega, P2, K2, HR2, HE2⟩
      case measure => simp [intOf]; omega
    · have hn := HNB.out
      rw [List.drop_of_length_le (by omega)] at hn
      simp only [numsB, Option.some.injEq] at hn
      have he := HE.out
      rw [← hn, List.append_nil] at he
      have HE2 := Aside0.mk he
      clear hn he
      go_wp2_with fail
      go_end0
      exact ⟨rfl, vj, by rw [← HE2.out]; exact HP.out, HK.out⟩
def foesB (k : Nat) : Nat → List (List Int) → Option (List Int)
  | _, [] => some []
  | q, l :: ls => (slices_BinarySearch_int_int.f k l (q : Int)).bind fun p => if 0 ≤ p.1 ∧ p.1 ≤ (l.length : Int) then (lisB k (l.drop p.1.toNat)).bind fun a => (foesB k (q + 1) ls).bind fun b => some (a ++ b) else none
def rulB (k : Nat) : List S36 → Option (List Int)
  | [] => some []
  | r :: rs => (uuF k r.f0).bind fun a => (uuF k r.f1).bind fun b => (lisB k r.f2).bind fun c => (rulB k rs).bind fun d => some (a ++ (b ++ (c ++ d)))
def beaB (k : Nat) : List (List Int) → Option (List Int)
  | [] => some []
  | l :: ls => (lisB k l).bind fun a => (beaB k ls).bind fun b => some (a ++ b)
def encB (k : Nat) (a0 : Int) (fo : List (List Int)) (rs : List S36) (be : List (List Int)) : Option (List Int) :=
  (uuF k a0).bind fun n => (foesB k 0 fo).bind fun a => (uuF k (rs.length : Int)).bind fun m => (rulB k rs).bind fun b => (beaB k be).bind fun c => if 0 < n.length ∧ 4 + (n ++ (a ++ (m ++ (b ++ c)))).length ≤ 140737488355000 then some ([116, 104, 121, 1] ++ (n ++ (a ++ (m ++ (b ++ c))))) else none
def theory_Encode.f (k : Nat) (a0 : Int) (fo : List (List Int)) (rs : List S36) (be : List (List Int)) : Option (List Int × Int) := (theory_Check.f k a0 fo rs be).bind fun r => if r.1 = 0 then (encB k a0 fo rs be).bind fun b => some (b, 0) else some ([], r.1)
theorem dropF {l : List (List Int)} {j : Nat} (h : j < l.length) : l.drop j = rd_L1 l (j : Int) :: l.drop (j + 1) := by
  rw [List.drop_eq_getElem_cons h]
  simp [rd_L1, List.getD_eq_getElem?_getD, List.getElem?_eq_getElem h]
theorem dropU {l : List S36} {j : Nat} (h : j < l.length) : l.drop j = rd_T36 l (j : Int) :: l.drop (j + 1) := by
  rw [List.drop_eq_getElem_cons h]
  simp [rd_T36, List.getD_eq_getElem?_getD, List.getElem?_eq_getElem h]
set_option maxHeartbeats 8000000 in
set_option maxRecDepth 100000 in
theorem theory_Encode.calls (k : Nat) (a0_0 : Int) (A0_1 : Option Addr) (c0_1 : Nat) (l0_1 : List (List Int)) (A0_2 : Option Addr) (c0_2 : Nat) (l0_2 : List (S36)) (A0_3 : Option Addr) (c0_3 : Nat) (l0_3 : List (List Int)) (r1 : List Int) (r2 : Int) (w : World) (hr0_1 : Kd.C (Kd.slice 3 (Kd.int .i64)) w A0_1 l0_1.length l0_1) (hc0_1 : l0_1.length ≤ c0_1) (hr0_2 : Kd.C k36 w A0_2 l0_2.length l0_2) (hc0_2 : l0_2.length ≤ c0_2) (hr0_3 : Kd.C (Kd.slice 3 (Kd.int .i64)) w A0_3 l0_3.length l0_3) (hc0_3 : l0_3.length ≤ c0_3) (h : theory_Encode.f k a0_0 l0_1 l0_2 l0_3 = some (r1, r2)) :
    Calls Try.prog 10 #[.agg #[.int .i64 a0_0, .slice A0_1 l0_1.length c0_1, .slice A0_2 l0_2.length c0_2, .slice A0_3 l0_3.length c0_3]] w fun e w' => ∃ v0_ : Value, e = .returned (.tuple #[v0_, .int .i64 r2]) ∧ Kd.R (Kd.int .u8) 5 w' w.heap.size (fun _ => True) v0_ r1 ∧ Below w.heap.size w w' := by
  unfold theory_Encode.f at h
  obtain ⟨⟨e0, p0⟩, hck, h⟩ := Option.bind_eq_some_iff.1 h
  have hb0 := below_alloc (Below.refl w.heap.size w) (.cells #[.int .i64 a0_0, .slice A0_1 l0_1.length c0_1, .slice A0_2 l0_2.length c0_2, .slice A0_3 l0_3.length c0_3] 25 (0, 0))
  obtain ⟨g0, hg0⟩ : ∃ g0, g0 = w.heap.size := ⟨_, rfl⟩
  have HBX := Aside0.mk (show (w.alloc (.cells #[.int .i64 a0_0, .slice A0_1 l0_1.length c0_1, .slice A0_2 l0_2.length c0_2, .slice A0_3 l0_3.length c0_3] 25 (0, 0))).heap[g0]? = some (.cells #[.int .i64 a0_0, .slice A0_1 l0_1.length c0_1, .slice A0_2 l0_2.length c0_2, .slice A0_3 l0_3.length c0_3] 25 (0, 0)) by rw [hg0]; exact blk_new w _)
  have HCK := Aside0.mk (theory_Check.calls k a0_0 A0_1 c0_1 l0_1 A0_2 c0_2 l0_2 A0_3 c0_3 l0_3 e0 p0 _ (Kd.C_below hr0_1 hb0) hc0_1 (Kd.C_below hr0_2 hb0) hc0_2 (Kd.C_below hr0_3 hb0) hc0_3 hck)
  have HR1 := Aside0.mk hr0_1
  have HR2 := Aside0.mk hr0_2
  have HR3 := Aside0.mk hr0_3
  have HB := Aside0.mk hb0
  have H := Aside0.mk h
  have HG := Aside0.mk hg0
  have hm1 := Kd.C_max hr0_1
  have hm2 := Kd.C_max hr0_2
  have hm3 := Kd.C_max hr0_3
  have kc := fun (w : World) (C : Array Value) (n c : Nat) => Lib.run_convert_bytes_const (P := Try.prog) w 41 5 C n c Try.underlying41 Try.underlying5
  have hsf := fun (a : Addr) (c : Array Value) (w : World) => run_store Try.prog w a (.func (.func 22) #[] c) .plain rfl
  clear hck hb0 hr0_1 hr0_2 hr0_3 h hg0
  go_enter Try.func10, Try.ntmps10
  go_wp2_with fail
  refine HCK.out.mono ?_
  rintro e w1 ⟨rfl, hb⟩
  have hg0 := HG.out
  rw [← hg0]
  have HB1 := Aside0.mk (below_step HB.out hb)
  have HBX1 := Aside0.mk (blk_below HBX.out hb)
  clear hb HB HBX HCK hg0 HG
  as_aux_lemma =>
  have h := H.out
  clear H
  by_cases he : e0 = 0
  rotate_left
  · rw [if_neg he] at h
    cases h
    have t0 : (r2 != 0) = true := by simpa using he
    clear he
    go_wp2_with fail
    go_ret2
    exact ⟨_, rfl, Kd.R_nil _ _ _ _ _, HB1.out⟩
  rw [if_pos he] at h
  subst he
  obtain ⟨tot, htot, h⟩ := Option.bind_eq_some_iff.1 h
  cases h
  unfold encB at htot
  obtain ⟨n, hn, htot⟩ := Option.bind_eq_some_iff.1 htot
  obtain ⟨bf, hbf, htot⟩ := Option.bind_eq_some_iff.1 htot
  obtain ⟨m, hm, htot⟩ := Option.bind_eq_some_iff.1 htot
  obtain ⟨br, hbr, htot⟩ := Option.bind_eq_some_iff.1 htot
  obtain ⟨bb, hbb, htot⟩ := Option.bind_eq_some_iff.1 htot
  by_cases hg : 0 < n.length ∧ 4 + (n ++ (bf ++ (m ++ (br ++ bb)))).length ≤ 140737488355000
  rotate_left
  · rw [if_neg hg] at htot; cases htot
  rw [if_pos hg] at htot
  obtain ⟨hn0, htl⟩ := hg
  have HT := Aside0.mk (Option.some.inj htot)
  have HN := Aside0.mk hn
  have HF := Aside0.mk hbf
  have HM := Aside0.mk hm
  have HRL := Aside0.mk hbr
  have HBE := Aside0.mk hbb
  have HN0 := Aside0.mk hn0
  have HTL := Aside0.mk htl
  clear hn hbf hm hbr hbb hn0 htl htot
  obtain ⟨g, hg⟩ : ∃ g, g = w1.heap.size := ⟨_, rfl⟩
  have z1 : (w1.alloc (.cells #[.int .u8 116, .int .u8 104, .int .u8 121, .int .u8 1] 5 (4, 5))).heap.size = g + 1 := by rw [hg]; exact Array.size_push ..
  have z2 : ((w1.alloc (.cells #[.int .u8 116, .int .u8 104, .int .u8 121, .int .u8 1] 5 (4, 5))).alloc (.cells #[.slice (some ⟨g, 0, none⟩) 4 4] 41 (0, 0))).heap.size = g + 2 := by rw [show g + 2 = (w1.alloc (.cells #[.int .u8 116, .int .u8 104, .int .u8 121, .int .u8 1] 5 (4, 5))).heap.size + 1 by omega]; exact Array.size_push ..
  have hgk := blk_alloc (blk_alloc (blk_new w1 (.cells #[.int .u8 116, .int .u8 104, .int .u8 121, .int .u8 1] 5 (4, 5))) (.cells #[.slice (some ⟨g, 0, none⟩) 4 4] 41 (0, 0))) (.cells #[.func (.func 22) #[] #[.pointer (some ⟨g + 1, 0, none⟩)]] 56 (0, 0))
  have hbk := blk_alloc (blk_new (w1.alloc (.cells #[.int .u8 116, .int .u8 104, .int .u8 121, .int .u8 1] 5 (4, 5))) (.cells #[.slice (some ⟨g, 0, none⟩) 4 4] 41 (0, 0))) (.cells #[.func (.func 22) #[] #[.pointer (some ⟨g + 1, 0, none⟩)]] 56 (0, 0))
  have hFk := blk_new ((w1.alloc (.cells #[.int .u8 116, .int .u8 104, .int .u8 121, .int .u8 1] 5 (4, 5))).alloc (.cells #[.slice (some ⟨g, 0, none⟩) 4 4] 41 (0, 0))) (.cells #[.func (.func 22) #[] #[.pointer (some ⟨g + 1, 0, none⟩)]] 56 (0, 0))
  have hB2 := below_alloc (below_alloc (below_alloc HB1.out (.cells #[.int .u8 116, .int .u8 104, .int .u8 121, .int .u8 1] 5 (4, 5))) (.cells #[.slice (some ⟨g, 0, none⟩) 4 4] 41 (0, 0))) (.cells #[.func (.func 22) #[] #[.pointer (some ⟨g + 1, 0, none⟩)]] 56 (0, 0))
  have hX2 := blk_alloc (blk_alloc (blk_alloc HBX1.out (.cells #[.int .u8 116, .int .u8 104, .int .u8 121, .int .u8 1] 5 (4, 5))) (.cells #[.slice (some ⟨g, 0, none⟩) 4 4] 41 (0, 0))) (.cells #[.func (.func 22) #[] #[.pointer (some ⟨g + 1, 0, none⟩)]] 56 (0, 0))
  have z3 : (((w1.alloc (.cells #[.int .u8 116, .int .u8 104, .int .u8 121, .int .u8 1] 5 (4, 5))).alloc (.cells #[.slice (some ⟨g, 0, none⟩) 4 4] 41 (0, 0))).alloc (.cells #[.func (.func 22) #[] #[.pointer (some ⟨g + 1, 0, none⟩)]] 56 (0, 0))).heap.size = g + 3 := by
    rw [show g + 3 = ((w1.alloc (.cells #[.int .u8 116, .int .u8 104, .int .u8 121, .int .u8 1] 5 (4, 5))).alloc (.cells #[.slice (some ⟨g, 0, none⟩) 4 4] 41 (0, 0))).heap.size + 1 by omega]; exact Array.size_push ..
  rw [z1] at hbk
  rw [z2] at hFk
  rw [← hg] at hgk
  have hgw : w.heap.size ≤ g := by have := HB1.out.size; omega
  have hgg : g0 < g := by have := blk_lt HBX1.out; omega
  have HGK := Aside0.mk hgk
  have HBK := Aside0.mk hbk
  have HFK := Aside0.mk hFk
  have HB2 := Aside0.mk hB2
  have HX2 := Aside0.mk hX2
  have HZ3 := Aside0.mk z3
  have HGW := Aside0.mk hgw
  have HGG := Aside0.mk hgg
  clear z1 z2 z3 hgk hbk hFk hB2 hX2 hgw hgg
  go_upto_region 7 with fail
  simp only [← hg]
  clear hg
  clear HB1 HBX1 kc hsf
  have e2 : g + 1 + 1 = g + 2 := rfl
  simp only [e2]
  clear e2
  generalize ((w1.alloc (.cells #[.int .u8 116, .int .u8 104, .int .u8 121, .int .u8 1] 5 (4, 5))).alloc (.cells #[.slice (some ⟨g, 0, none⟩) 4 4] 41 (0, 0))).alloc (.cells #[.func (.func 22) #[] #[.pointer (some ⟨g + 1, 0, none⟩)]] 56 (0, 0)) = w2 at HGK HBK HFK HB2 HX2 HZ3 ⊢
  as_aux_lemma =>
  have k0 : w2.cell? ⟨g0, 0, none⟩ = some (.int .i64 a0_0) := blk_cell HX2.out 0
  have kF : w2.cell? ⟨g + 2, 0, none⟩ = some (.func (.func 22) #[] #[.pointer (some ⟨g + 1, 0, none⟩)]) := (blk_cell HFK.out 0).trans rfl
  go_wp2_with fail
  refine (put_first k (g + 1) (g + 3) g a0_0 n w w2 HBK.out HGK.out HB2.out (by have := HGW.out; omega) (by omega) (by have := HZ3.out; omega) HN.out HN0.out (by have := HTL.out; simp only [List.length_append] at this; omega)).mono ?_
  rintro e w3 ⟨rfl, v3, hP, hK⟩
  have P3 := Aside0.mk hP
  have K3 := Aside0.mk (show Keeps w2 w3 (g + 1) from fun g' t cs hb ht hne => hK.blk hb hne (by simp))
  clear hP hK k0 kF HGK HBK HB2 HZ3 HN HN0
  -- what every world behind has
  have hbox : ∀ W, Keeps w2 W (g + 1) → W.cell? ⟨g0, 1, none⟩ = some (.slice A0_1 l0_1.length c0_1) ∧ W.cell? ⟨g0, 2, none⟩ = some (.slice A0_2 l0_2.length c0_2) ∧ W.cell? ⟨g0, 3, none⟩ = some (.slice A0_3 l0_3.length c0_3) ∧ W.heap[g + 2]? = some (.cells #[.func (.func 22) #[] #[.pointer (some ⟨g + 1, 0, none⟩)]] 56 (0, 0)) := fun W hK => by
    have hb := hK g0 _ _ HX2.out (by decide) (by have := HGG.out; omega)
    exact ⟨blk_cell hb 1, blk_cell hb 2, blk_cell hb 3, hK (g + 2) _ _ HFK.out (by decide) (by omega)⟩
  have HBOX := Aside0.mk hbox
  obtain ⟨k1, _, _, _⟩ := hbox w3 K3.out
  clear hbox
  go_wp2_with fail
  clear k1
  go_loopw [36] (fun v36 wr => ∃ (i : Nat) (v : Value) (xs rest : List Int), v36 = .int .i64 i ∧ i ≤ l0_1.length ∧ Aside0 (PutSt w wr (g + 1) (g + 3) v xs) ∧ Aside0 (Keeps w2 wr (g + 1)) ∧ Aside0 (foesB k i (l0_1.drop i) = some rest) ∧ Aside0 (xs ++ rest = [116, 104, 121, 1] ++ (n ++ bf))) (fun v36 _ => l0_1.length - (intOf v36).toNat)
  case atStart => exact ⟨0, v3, _, bf, rfl, Nat.zero_le _, P3, K3, ⟨by rw [List.drop_zero]; exact HF.out⟩, ⟨by simp⟩⟩
  case round =>
    clear P3 K3 HF
    obtain ⟨i, v, xs, rest, rfl, hi, HP, HK, HFB, HE⟩ := hrel
    by_cases hlt : i < l0_1.length
    · as_aux_lemma =>
      have hf := HFB.out
      rw [dropF hlt] at hf
      obtain ⟨⟨p1, p2⟩, hbs, hf⟩ := Option.bind_eq_some_iff.1 hf
      obtain ⟨ad, A0, c0, rfl, hrow, hr0, hC⟩ := at_L1 HR1.out (i : Int) (by omega) (by omega)
      obtain ⟨row, hrw⟩ : ∃ row, row = rd_L1 l0_1 (i : Int) := ⟨_, rfl⟩
      rw [← hrw] at hf hbs hrow hr0 hC
      clear hrw
      by_cases hg : 0 ≤ p1 ∧ p1 ≤ (row.length : Int)
      rotate_left
      · rw [if_neg hg] at hf; cases hf
      rw [if_pos hg] at hf
      obtain ⟨g1, g2⟩ := hg
      obtain ⟨a, ha, hf⟩ := Option.bind_eq_some_iff.1 hf
      obtain ⟨r2, hr2, hf⟩ := Option.bind_eq_some_iff.1 hf
      obtain rfl := Option.some.inj hf
      obtain ⟨i3, hi3, _, hs3, _⟩ := info_parts info3
      have hcut := cut_from (P := Try.prog) 26 3 .i64 Try.underlying26 hi3 1 hs3 A0 row.length c0 p1 g1 g2
      have hC1 := Kd.C_drop (m := p1.toNat) hC (by omega) hr0
      obtain ⟨A1, hA1⟩ : ∃ A1, A1 = (if c0 = p1.toNat then A0 else A0.map (·.add (p1.toNat * 1))) := ⟨_, rfl⟩
      rw [← hA1] at hcut
      have hC1 : Kd.C (Kd.int .i64) w A1 (row.drop p1.toNat).length (row.drop p1.toNat) := by rw [hA1]; exact hC1
      have hrow := pw_cell_below HP.out.below hrow
      simp only [Int.toNat_natCast] at hrow
      have hmx := Kd.C_max hC
      have HBS := Aside0.mk hbs
      have HC := Aside0.mk hC
      have HC1 := Aside0.mk hC1
      have HA := Aside0.mk ha
      have HR := Aside0.mk hr2
      have HLE := Aside0.mk (show xs.length + a.length ≤ 140737488355328 by
        have h1 := congrArg List.length HE.out
        have h2 := HTL.out
        simp only [List.length_append, List.length_cons, List.length_nil] at h1 h2
        omega)
      have HE2 := Aside0.mk (show (xs ++ a) ++ r2 = [116, 104, 121, 1] ++ (n ++ bf) by rw [← HE.out]; simp)
      have HP0 := Aside0.mk hr0
      clear hbs hC hC1 ha hr2 hf hA1 hi3 hs3 HE HFB hr0
      go_wp2_with fail
      refine (slices_BinarySearch_int_int.calls k A0 c0 row (i : Int) p1 p2 _ (Kd.C_below HC.out HP.out.below) HP0.out HBS.out).mono ?_
      rintro e w4 ⟨rfl, ⟨nd, rfl⟩⟩
      clear hrow
      go_wp2_with fail
      refine (list_any k (g + 1) (g + 3) (g + 2) A1 _ _ (row.drop p1.toNat) xs a (by rw [List.length_drop]) v w _ (HP.out.step (pw_below_drewN (Below.refl _ _) nd)) ((HBOX.out _ (HK.out.trans (Keeps.drewN _ _ _))).2.2.2) (by omega) HC1.out HA.out HLE.out).mono ?_
      rintro e w5 ⟨rfl, v5, hP, hK⟩
      have P5 := Aside0.mk hP
      have K5 := Aside0.mk ((HK.out.trans (Keeps.drewN _ _ _)).trans hK)
      clear hP hK
      go_wp2_with fail
      go_roundw
      case rel => exact ⟨i + 1, v5, _, r2, by go_num, by omega, P5, K5, HR, HE2⟩
      case measure => simp [intOf]; omega
    · as_aux_lemma =>
      have hf := HFB.out
      rw [List.drop_of_length_le (by omega)] at hf
      simp only [foesB, Option.some.injEq] at hf
      have he := HE.out
      rw [← hf, List.append_nil] at he
      have HE1 := Aside0.mk he
      obtain ⟨_, k2, _, hF⟩ := HBOX.out _ HK.out
      have kF : wr.cell? ⟨g + 2, 0, none⟩ = some (.func (.func 22) #[] #[.pointer (some ⟨g + 1, 0, none⟩)]) := (blk_cell hF 0).trans rfl
      clear hf he HFB HE hF
      go_wp2_with fail
      refine (put_keep k (g + 1) (g + 3) (l0_2.length : Int) xs m v w _ HP.out HM.out (by
        have h1 := congrArg List.length HE1.out
        have h2 := HTL.out
        simp only [List.length_append, List.length_cons, List.length_nil] at h1 h2
        omega)).mono ?_
      rintro e w4 ⟨rfl, v4, hP, hK⟩
      have P4 := Aside0.mk hP
      have K4 := Aside0.mk (HK.out.trans hK)
      have HE4 := Aside0.mk (show xs ++ m = [116, 104, 121, 1] ++ (n ++ (bf ++ m)) by rw [HE1.out]; simp)
      clear hP hK k2 kF HP HK HM HE1
      obtain ⟨_, k2, _, _⟩ := HBOX.out _ K4.out
      clear hlt hi
      go_wp2_with fail
      clear k2
      as_aux_lemma =>
      go_loopw [61] (fun v61 wr => ∃ (i : Nat) (v : Value) (xs rest : List Int), v61 = .int .i64 i ∧ i ≤ l0_2.length ∧ Aside0 (PutSt w wr (g + 1) (g + 3) v xs) ∧ Aside0 (Keeps w2 wr (g + 1)) ∧ Aside0 (rulB k (l0_2.drop i) = some rest) ∧ Aside0 (xs ++ rest = [116, 104, 121, 1] ++ (n ++ (bf ++ (m ++ br))))) (fun v61 _ => l0_2.length - (intOf v61).toNat)
      case atStart => exact ⟨0, v4, _, br, rfl, Nat.zero_le _, P4, K4, ⟨by rw [List.drop_zero]; exact HRL.out⟩, ⟨by rw [HE4.out]; simp⟩⟩
      case round =>
        clear P4 K4 HRL HE4
        obtain ⟨i, v, xs, rest, rfl, hi, HP, HK, HRB, HE⟩ := hrel
        by_cases hlt : i < l0_2.length
        · as_aux_lemma =>
          have hf := HRB.out
          rw [dropU hlt] at hf
          obtain ⟨a, ha, hf⟩ := Option.bind_eq_some_iff.1 hf
          obtain ⟨b, hb, hf⟩ := Option.bind_eq_some_iff.1 hf
          obtain ⟨c, hc, hf⟩ := Option.bind_eq_some_iff.1 hf
          obtain ⟨d, hd, hf⟩ := Option.bind_eq_some_iff.1 hf
          obtain rfl := Option.some.inj hf
          obtain ⟨ad, Ab, cb, rfl, x0, x1, x2, hlb, hCb⟩ := at_T36 HR2.out (i : Int) (by omega) (by omega)
          have x0 := pw_cell_below HP.out.below x0
          have x1 := pw_cell_below HP.out.below x1
          have x2 := pw_cell_below HP.out.below x2
          simp only [Int.toNat_natCast] at x0 x1 x2
          obtain ⟨s, hs⟩ : ∃ s, s = rd_T36 l0_2 (i : Int) := ⟨_, rfl⟩
          rw [← hs] at x0 x1 x2 ha hb hc hlb hCb
          have HA := Aside0.mk ha
          have HB := Aside0.mk hb
          have HC := Aside0.mk hc
          have HD := Aside0.mk hd
          have HCB := Aside0.mk hCb
          have HLE := Aside0.mk (show xs.length + (a.length + (b.length + (c.length + d.length))) ≤ 140737488355000 by
            have h1 := congrArg List.length HE.out
            have h2 := HTL.out
            simp only [List.length_append, List.length_cons, List.length_nil] at h1 h2
            omega)
          have HE2 := Aside0.mk (show (((xs ++ a) ++ b) ++ c) ++ d = [116, 104, 121, 1] ++ (n ++ (bf ++ (m ++ br))) by rw [← HE.out]; simp)
          have hal := below_alloc (Below.refl wr.heap.size wr) (.cells #[.int .i64 s.f0, .int .i64 s.f1, .slice Ab s.f2.length cb] 36 (0, 0))
          have P0 := Aside0.mk (HP.out.step hal)
          have K0 := Aside0.mk (HK.out.trans (show Keeps wr (wr.alloc (.cells #[.int .i64 s.f0, .int .i64 s.f1, .slice Ab s.f2.length cb] 36 (0, 0))) (g + 1) from fun g' t cs h _ _ => blk_alloc h _))
          obtain ⟨gb, hgb⟩ : ∃ gb, gb = wr.heap.size := ⟨_, rfl⟩
          have B0 := Aside0.mk (show (wr.alloc (.cells #[.int .i64 s.f0, .int .i64 s.f1, .slice Ab s.f2.length cb] 36 (0, 0))).heap[gb]? = some (.cells #[.int .i64 s.f0, .int .i64 s.f1, .slice Ab s.f2.length cb] 36 (0, 0)) by rw [hgb]; exact blk_new wr _)
          have NB := Aside0.mk (show gb ≠ g + 1 by have := blk_lt HP.out.blk; omega)
          clear ha hb hc hd hf hs hCb hal HE HRB HP HK
          go_upto_region 18 with fail
          rw [← hgb]
          clear hgb x0 x1 x2
          generalize wr.alloc (.cells #[.int .i64 s.f0, .int .i64 s.f1, .slice Ab s.f2.length cb] 36) = wa at P0 K0 B0 ⊢
          have kF : wa.cell? ⟨g + 2, 0, none⟩ = some (.func (.func 22) #[] #[.pointer (some ⟨g + 1, 0, none⟩)]) := (blk_cell (HBOX.out _ K0.out).2.2.2 0).trans rfl
          have y0 : wa.cell? ⟨gb, 0, none⟩ = some (.int .i64 s.f0) := blk_cell B0.out 0
          go_wp2_with fail
          refine (put_keep k (g + 1) (g + 3) s.f0 xs a v w _ P0.out HA.out (by have := HLE.out; omega)).mono ?_
          rintro e wb ⟨rfl, v1, hP, hK⟩
          have P1 := Aside0.mk hP
          have K1 := Aside0.mk (K0.out.trans hK)
          have B1 := Aside0.mk (hK gb _ _ B0.out (by decide) NB.out)
          clear hP hK kF y0 P0 K0 B0 HA
          have kF : wb.cell? ⟨g + 2, 0, none⟩ = some (.func (.func 22) #[] #[.pointer (some ⟨g + 1, 0, none⟩)]) := (blk_cell (HBOX.out _ K1.out).2.2.2 0).trans rfl
          have y1 : wb.cell? ⟨gb, 1, none⟩ = some (.int .i64 s.f1) := blk_cell B1.out 1
          go_wp2_with fail
          refine (put_keep k (g + 1) (g + 3) s.f1 (xs ++ a) b v1 w _ P1.out HB.out (by have := HLE.out; rw [List.length_append]; omega)).mono ?_
          rintro e wc ⟨rfl, v2, hP, hK⟩
          have P2 := Aside0.mk hP
          have K2 := Aside0.mk (K1.out.trans hK)
          have B2 := Aside0.mk (hK gb _ _ B1.out (by decide) NB.out)
          clear hP hK kF y1 P1 K1 B1 HB
          have y2 : wc.cell? ⟨gb, 2, none⟩ = some (.slice Ab s.f2.length cb) := blk_cell B2.out 2
          go_wp2_with fail
          refine (list_any k (g + 1) (g + 3) (g + 2) Ab cb _ s.f2 ((xs ++ a) ++ b) c rfl v2 w _ P2.out ((HBOX.out _ K2.out).2.2.2) (by omega) HCB.out HC.out (by have := HLE.out; simp only [List.length_append]; omega)).mono ?_
          rintro e wd ⟨rfl, v3, hP, hK⟩
          have P3 := Aside0.mk hP
          have K3 := Aside0.mk (K2.out.trans hK)
          clear hP hK y2 P2 K2 B2
          go_wp2_with fail
          go_roundw
          case rel => exact ⟨i + 1, v3, _, d, by go_num, by omega, P3, K3, HD, HE2⟩
          case measure => simp [intOf]; omega
        · as_aux_lemma =>
          have hf := HRB.out
          rw [List.drop_of_length_le (by omega)] at hf
          simp only [rulB, Option.some.injEq] at hf
          have he := HE.out
          rw [← hf, List.append_nil] at he
          have HE1 := Aside0.mk he
          obtain ⟨_, _, k3, _⟩ := HBOX.out _ HK.out
          clear hf he HRB HE
          go_wp2_with fail
          clear k3 hlt hi
          go_loopw [81] (fun v81 wr => ∃ (i : Nat) (v : Value) (xs rest : List Int), v81 = .int .i64 i ∧ i ≤ l0_3.length ∧ Aside0 (PutSt w wr (g + 1) (g + 3) v xs) ∧ Aside0 (Keeps w2 wr (g + 1)) ∧ Aside0 (beaB k (l0_3.drop i) = some rest) ∧ Aside0 (xs ++ rest = [116, 104, 121, 1] ++ (n ++ (bf ++ (m ++ (br ++ bb)))))) (fun v81 _ => l0_3.length - (intOf v81).toNat)
          case atStart => exact ⟨0, v, xs, bb, rfl, Nat.zero_le _, HP, HK, ⟨by rw [List.drop_zero]; exact HBE.out⟩, ⟨by rw [HE1.out]; simp⟩⟩
          case round =>
            clear HP HK HBE HE1
            obtain ⟨i, v, xs, rest, rfl, hi, HP, HK, HBB, HE⟩ := hrel
            by_cases hlt : i < l0_3.length
            · as_aux_lemma =>
              have hf := HBB.out
              rw [dropF hlt] at hf
              obtain ⟨a, ha, hf⟩ := Option.bind_eq_some_iff.1 hf
              obtain ⟨r2, hr2, hf⟩ := Option.bind_eq_some_iff.1 hf
              obtain rfl := Option.some.inj hf
              obtain ⟨ad, A0, c0, rfl, hrow, hr0, hC⟩ := at_L1 HR3.out (i : Int) (by omega) (by omega)
              have hrow := pw_cell_below HP.out.below hrow
              simp only [Int.toNat_natCast] at hrow
              obtain ⟨row, hrw⟩ : ∃ row, row = rd_L1 l0_3 (i : Int) := ⟨_, rfl⟩
              rw [← hrw] at ha hrow hC
              have HA := Aside0.mk ha
              have HC := Aside0.mk hC
              have HR := Aside0.mk hr2
              have HLE := Aside0.mk (show xs.length + a.length ≤ 140737488355328 by
                have h1 := congrArg List.length HE.out
                have h2 := HTL.out
                simp only [List.length_append, List.length_cons, List.length_nil] at h1 h2
                omega)
              have HE2 := Aside0.mk (show (xs ++ a) ++ r2 = [116, 104, 121, 1] ++ (n ++ (bf ++ (m ++ (br ++ bb)))) by rw [← HE.out]; simp)
              clear ha hC hr2 hf hr0 hrw HE HBB
              go_wp2_with fail
              refine (list_any k (g + 1) (g + 3) (g + 2) A0 c0 _ row xs a rfl v w _ HP.out ((HBOX.out _ HK.out).2.2.2) (by omega) HC.out HA.out HLE.out).mono ?_
              rintro e w5 ⟨rfl, v5, hP, hK⟩
              have P5 := Aside0.mk hP
              have K5 := Aside0.mk (HK.out.trans hK)
              clear hP hK hrow
              go_wp2_with fail
              go_roundw
              case rel => exact ⟨i + 1, v5, _, r2, by go_num, by omega, P5, K5, HR, HE2⟩
              case measure => simp [intOf]; omega
            · as_aux_lemma =>
              have hf := HBB.out
              rw [List.drop_of_length_le (by omega)] at hf
              simp only [beaB, Option.some.injEq] at hf
              have he := HE.out
              rw [← hf, List.append_nil, HT.out] at he
              subst he
              have kB : wr.cell? ⟨g + 1, 0, none⟩ = some v := blk_cell HP.out.blk 0
              clear hf HBB HE
              go_wp2_with fail
              go_ret2
              exact ⟨_, rfl, Kd.R_lower (Kd.R_mono HP.out.row (fun _ _ => trivial)) (by have := HGW.out; omega), HP.out.below⟩


/-! ### octets_ReadUint: function 45 -/
def octets_ReadUint.f (l0 : List Int) (a1 : Int) : Option (Int × Int × Int) := if Bytes l0 then some (ru l0 a1) else none
theorem octets_ReadUint.info : (Try.prog.info? 5).map (fun i => (i.zero, i.size, i.bytes)) = some (some (.int .u8 0), 1, 1) := by kernel_rfl
theorem and127 (c : Int) : 0 ≤ Go.bits .and .u8 c 127 ∧ Go.bits .and .u8 c 127 ≤ 255 := by
  simp only [Go.bits]
  rw [IntKind.wrap_u8]
  omega
set_option maxHeartbeats 1000000 in
theorem octets_ReadUint.calls (A0 : Option Addr) (c0 : Nat) (l0 : List Int) (a1 : Int) (r1 : Int) (r2 : Int) (r3 : Int) (w : World) (hr0 : Kd.C (Kd.int .u8) w A0 l0.length l0) (hc0 : l0.length ≤ c0) (h : octets_ReadUint.f l0 a1 = some (r1, r2, r3)) :
    Calls Try.prog 45 #[.slice A0 l0.length c0, .int .i64 a1] w fun e w' => e = .returned (.tuple #[.int .u64 r1, .int .i64 r2, .int .i64 r3]) ∧ Drawn0 w w' := by
  unfold octets_ReadUint.f at h
  by_cases hb : Bytes l0
  · rw [if_pos hb] at h
    have h := Option.some.inj h
    unfold ru at h
    by_cases h0 : a1 < 0
    · rw [if_pos (.inl h0)] at h
      simp only [Prod.mk.injEq] at h
      obtain ⟨rfl, rfl, rfl⟩ := h
      have hd : decide (a1 < 0) = true := decide_eq_true h0
      clear h0 hr0 hb
      go_enter Try.func45, Try.ntmps45
      go_wp2
      go_ret3
      exact ⟨rfl, Drawn0.refl _⟩
    · have h0' : 0 ≤ a1 := by omega
      have hd : decide (a1 < 0) = false := decide_eq_false h0
      by_cases h1 : (l0.length : Int) < a1
      · rw [if_pos (.inr h1)] at h
        simp only [Prod.mk.injEq] at h
        obtain ⟨rfl, rfl, rfl⟩ := h
        have hd1 : decide ((l0.length : Int) < a1) = true := decide_eq_true h1
        clear h0 h1 hr0 hb
        go_enter Try.func45, Try.ntmps45
        go_wp2
        go_ret3
        exact ⟨rfl, Drawn0.refl _⟩
      · rw [if_neg (by omega)] at h
        obtain ⟨a, rfl⟩ := Int.eq_ofNat_of_zero_le h0'
        rw [Int.toNat_natCast] at h
        have hle : a ≤ l0.length := by omega
        have hle' : (a : Int) ≤ (l0.length : Int) := by omega
        have hd1 : decide ((l0.length : Int) < (a : Int)) = false := decide_eq_false h1
        have hd2 : decide (l0.length < a) = false := decide_eq_false (by omega)
        have HB := Lib.hid hb
        have H := Lib.hid h
        have hbound : (l0.length : Int) ≤ 9223372036854775807 := by have := hr0.2.1; omega
        obtain ⟨i08, hi08, _, hsz8, _⟩ := info_parts octets_ReadUint.info
        obtain ⟨A8, hcut8, hA8, hC8⟩ := print_drop_of (P := Try.prog) (Value.int .u8) 0 41 5 .i64 Try.underlying41 hi08 hsz8 A0 c0 l0 a (by omega) hle' hc0
        have hR := Kd.C_of_reads (h1 := fun _ => rfl) (hA8 _ (Kd.reads_of_C hr0))
        rw [Int.toNat_natCast, List.length_drop] at hR
        have HR := Aside0.mk hR
        clear hR
        clear hA8 hC8 hi08 hsz8 hr0 hb h h1 h0
        go_enter Try.func45, Try.ntmps45
        go_wp2
        go_loop [7, 23] (fun v7 v23 => ∃ (i : Nat) (m : Int), i ≤ 9 ∧ i ≤ l0.length - a ∧ v23 = .int .i64 i ∧ v7 = .int .u64 m ∧ Aside0 (ruGo a l0.length ((l0.drop a).drop i) i m = (r1, r2, r3))) (fun _ v23 => 10 - (intOf v23).toNat)
        case atStart => exact ⟨0, 0, by omega, by omega, rfl, rfl, ⟨H.out⟩⟩
        case round =>
          obtain ⟨i, m, hi9, hil, rfl, rfl, HG⟩ := hrel
          by_cases hlt : i < l0.length - a
          · have HG1 := HG.out
            rw [drop_rd _ _ (by rw [List.length_drop]; exact hlt)] at HG1
            obtain ⟨ad, e, hx⟩ := Kd.at_int HR.out i (by omega) (by omega)
            subst e
            rw [Int.toNat_natCast] at hx
            obtain ⟨hc0', hc255⟩ := (HB.out.drop a).rd_ i
            generalize rd (l0.drop a) (i : Int) = c at HG1 hx hc0' hc255
            unfold ruGo at HG1
            clear HG
            by_cases hc1 : i = 9 ∧ 1 < c
            · rw [if_pos hc1] at HG1
              simp only [Prod.mk.injEq] at HG1
              obtain ⟨rfl, rfl, rfl⟩ := HG1
              have h9b : ((i : Int) == 9) = true := beq_iff_eq.2 (by omega)
              have hc1b : decide (1 < c) = true := decide_eq_true hc1.2
              clear hc1
              go_wp2
              go_ret3
              exact ⟨rfl, Drawn0.refl _⟩
            · rw [if_neg hc1] at HG1
              have hsh : (7 * (i : Int)).toNat = 7 * i := by omega
              have HSH := Lib.hid hsh
              clear hsh
              by_cases hc128 : 128 ≤ c
              · rw [if_pos hc128] at HG1
                have h9b : ((i : Int) == 9) = false := beq_eq_false_iff_ne.2 (by omega)
                have hc128b : decide (128 ≤ c) = true := decide_eq_true hc128
                obtain ⟨b0, b1⟩ := and127 c
                have hi8 : i ≤ 8 := by omega
                have HH := Aside0.mk HG1
                clear HG1 hc1
                go_wp2
                go_round
                case rel => exact ⟨i + 1, _, by omega, by omega, by go_num, rfl, by rw [List.drop_drop] at *; exact HH⟩
                case measure => simp [intOf]; omega
              · rw [if_neg hc128] at HG1
                have hc128b : decide (128 ≤ c) = false := decide_eq_false hc128
                by_cases hz : c = 0 ∧ 0 < i
                · rw [if_pos hz] at HG1
                  simp only [Prod.mk.injEq] at HG1
                  obtain ⟨rfl, rfl, rfl⟩ := HG1
                  have hzb : (c == 0) = true := beq_iff_eq.2 hz.1
                  have hc1b : decide (1 < c) = false := decide_eq_false (by omega)
                  have hib : decide (0 < (i : Int)) = true := decide_eq_true (by omega)
                  have hib' : decide (0 < i) = true := decide_eq_true (by omega)
                  clear hz hc1
                  by_cases h9 : i = 9
                  · have h9b : ((i : Int) == 9) = true := beq_iff_eq.2 (by omega)
                    clear h9
                    go_wp2
                    go_ret3
                    exact ⟨rfl, Drawn0.refl _⟩
                  · have h9b : ((i : Int) == 9) = false := beq_eq_false_iff_ne.2 (by omega)
                    clear h9
                    go_wp2
                    go_ret3
                    exact ⟨rfl, Drawn0.refl _⟩
                · rw [if_neg hz] at HG1
                  simp only [Prod.mk.injEq] at HG1
                  obtain ⟨e1, e2, rfl⟩ := HG1
                  have E1 := Lib.hid e1
                  have E2 := Lib.hid e2
                  clear e1 e2
                  have fin : ∀ X Y : Int, X = Go.bits .or .u64 m (IntKind.u64.wrap (c * 2 ^ (7 * i))) → Y = (a : Int) + i + 1 → Ending.returned (.tuple #[.int .u64 X, .int .i64 Y, .int .i64 0]) = .returned (.tuple #[.int .u64 r1, .int .i64 r2, .int .i64 0]) := fun X Y hX hY => by rw [hX, hY, E1.out, E2.out]
                  have FIN := Lib.hid fin
                  clear fin
                  by_cases hcz : c = 0
                  · have hi0 : i = 0 := by omega
                    have hzb : (c == 0) = true := beq_iff_eq.2 hcz
                    have hib : decide (0 < (i : Int)) = false := decide_eq_false (by omega)
                    have hib' : decide (0 < i) = false := decide_eq_false (by omega)
                    have h9b : ((i : Int) == 9) = false := beq_eq_false_iff_ne.2 (by omega)
                    clear hi0 hcz hz hc1
                    go_wp2
                    go_ret3
                    exact ⟨FIN.out _ _ (by rfl) (by rfl), Drawn0.refl _⟩
                  · have hzb : (c == 0) = false := beq_eq_false_iff_ne.2 hcz
                    by_cases h9 : i = 9
                    · have h9b : ((i : Int) == 9) = true := beq_iff_eq.2 (by omega)
                      have hc1b : decide (1 < c) = false := decide_eq_false (by omega)
                      clear h9 hcz hz hc1
                      go_wp2
                      go_ret3
                      exact ⟨FIN.out _ _ (by rfl) (by rfl), Drawn0.refl _⟩
                    · have h9b : ((i : Int) == 9) = false := beq_eq_false_iff_ne.2 (by omega)
                      clear h9 hcz hz hc1
                      go_wp2
                      go_ret3
                      exact ⟨FIN.out _ _ (by rfl) (by rfl), Drawn0.refl _⟩
          · obtain rfl : i = l0.length - a := by omega
            have HG1 := HG.out
            rw [List.drop_eq_nil_of_le (by rw [List.length_drop]; exact Nat.le_refl _)] at HG1
            simp only [ruGo, Prod.mk.injEq] at HG1
            obtain ⟨rfl, rfl, rfl⟩ := HG1
            go_wp2
            go_ret3
            exact ⟨rfl, Drawn0.refl _⟩
  · rw [if_neg hb] at h
    cases h


/-! ### theory_reader_num: function 39 -/
/-- The reader at block g: its bytes came in by w0. -/
def WrIs (w0 W : World) (g : Nat) (l : List Int) (p : Int) : Prop := ∃ A c, W.heap[g]? = some (.cells #[.slice A l.length c, .int .i64 p] 64 (0, 0)) ∧ w0.heap.size ≤ g ∧ Kd.C (Kd.int .u8) w0 A l.length l ∧ l.length ≤ c
theorem WrIs.below {w0 W W1 : World} {g : Nat} {l : List Int} {p : Int} (h : WrIs w0 W g l p) (hw : Below W.heap.size W W1) : WrIs w0 W1 g l p := by
  obtain ⟨A, c, hb, h⟩ := h
  exact ⟨A, c, blk_grown hb (grown_of_below hw none) (by simp), h⟩
theorem WrIs.set {w0 W : World} {g : Nat} {l : List Int} {p : Int} (h : WrIs w0 W g l p) (x : Int) : WrIs w0 (W.setCell ⟨g, 1, none⟩ (.int .i64 x)) g l x := by
  obtain ⟨A, c, hb, h⟩ := h
  exact ⟨A, c, by simpa using blk_set hb 1 (.int .i64 x), h⟩
theorem WrIs.drewN {w0 W : World} {g : Nat} {l : List Int} {p : Int} (h : WrIs w0 W g l p) (n : Nat) : WrIs w0 (W.drewN n) g l p := h
theorem run_panic (T : TypeId) (v : Value) (w : World) : (Instr.panic (.iface T v)).run Try.prog w = .halt (.panic (.iface T v)) w := rfl
/-- What a reader gives up with. -/
def wrFlt (e p : Int) : Ending := .panicked [{ v := .iface 60 (.agg #[.int .i64 e, .int .i64 p]), recovered := false }]
def RPost (w0 w : World) (g : Nat) (l : List Int) (v : Value) (q : Int) (e : Ending) (w' : World) : Prop := e = .returned v ∧ WrIs w0 w' g l q ∧ Below w0.heap.size w0 w' ∧ KeepBut w w' g none
def FPost (w0 w : World) (g : Nat) (er q : Int) (e : Ending) (w' : World) : Prop := e = wrFlt er q ∧ Below w0.heap.size w0 w' ∧ KeepBut w w' g none
theorem quiet_d0 {P : Program} {f : FuncId} {args : Array Value} {w : World} {n : Nat} {v : Value} (h : Calls P f args (w.drewN n) fun e w' => e = .returned v ∧ Drawn0 (w.drewN n) w') :
    Calls P f args (w.drewN n) fun e w'' => e = .returned v ∧ ∃ m, w'' = w.drewN m :=
  h.mono fun _ _ ⟨he, ⟨m, hm⟩⟩ => ⟨he, n + m, by rw [hm, World.drewN_drewN]⟩
/-- A number from least to most. -/
def numT (l : List Int) (p least most e : Int) : Except (Int × Int) (Int × Int) :=
  let r := ru l p
  if r.2.2 ≠ 0 then .error (r.2.2, r.2.1) else if r.1 < IntKind.u64.wrap least then .error (e, p) else if IntKind.u64.wrap most < r.1 then .error (e, p) else if most < least then .error (e, p) else .ok (wrap64 r.1, r.2.1)
theorem numT_ok (g : Nat) (l : List Int) (p least most er v q : Int) (w0 w : World) (hI : WrIs w0 w g l p) (hB : Below w0.heap.size w0 w) (hby : Bytes l) (h : numT l p least most er = .ok (v, q)) :
    Calls Try.prog 39 #[.pointer (some ⟨g, 0, none⟩), .int .i64 least, .int .i64 most, .int .i64 er] w (RPost w0 w g l (.int .i64 v) q) := by
  unfold numT at h
  rcases hr : ru l p with ⟨n, u, e⟩
  rw [hr] at h
  simp only at h
  have hru : octets_ReadUint.f l p = some (n, u, e) := by unfold octets_ReadUint.f; rw [if_pos hby, hr]
  have HI := Aside0.mk hI
  have HB := Aside0.mk hB
  have HRU := Lib.hid hru
  clear hr hru
  obtain ⟨A, c, hb, hg, hC, hc⟩ := hI
  by_cases e0 : e ≠ 0
  · rw [if_pos e0] at h; cases h
  rw [if_neg e0] at h
  by_cases e1 : n < IntKind.u64.wrap least
  · rw [if_pos e1] at h; cases h
  rw [if_neg e1] at h
  by_cases e2 : IntKind.u64.wrap most < n
  · rw [if_pos e2] at h; cases h
  rw [if_neg e2] at h
  by_cases e3 : most < least
  · rw [if_pos e3] at h; cases h
  rw [if_neg e3] at h
  simp only [Except.ok.injEq, Prod.mk.injEq] at h
  obtain ⟨rfl, rfl⟩ := h
  have t0 : (e != 0) = false := by simpa using e0
  have t1 : decide (n < IntKind.u64.wrap least) = false := decide_eq_false e1
  have t2 : decide (IntKind.u64.wrap most < n) = false := decide_eq_false e2
  have t3 : decide (most < least) = false := decide_eq_false e3
  have c0 : w.cell? ⟨g, 0, none⟩ = some (.slice A l.length c) := (blk_cell hb 0).trans rfl
  have c1 : w.cell? ⟨g, 1, none⟩ = some (.int .i64 p) := (blk_cell hb 1).trans rfl
  have f1 := blk_frozen hb 1
  have HC := Aside0.mk (Kd.C_below hC hB)
  have HCC := Aside0.mk hc
  clear e0 e1 e2 e3 hC hc hb hB
  go_enter Try.func39, Try.ntmps39
  go_wp2
  go_quiet ((go_at_call 45; exact quiet_d0 (octets_ReadUint.calls _ _ l p n u e _ (Kd.C_drewN HC.out _) HCC.out HRU.out)))
  go_wp2
  go_ret
  exact ⟨rfl, by repeat (first | (with_reducible first | exact HI.out | apply WrIs.set | apply WrIs.drewN) | exact HI.out), by repeat (first | (with_reducible first | exact HB.out | apply pw_below_drewN | refine below_set ?_ hg) | exact HB.out), by repeat (first | (with_reducible first | exact KeepBut.refl _ _ _ | apply KeepBut.set_ | apply keep_drewN) | exact KeepBut.refl _ _ _)⟩
theorem numT_bad (g : Nat) (l : List Int) (p least most er er' q : Int) (w0 w : World) (hI : WrIs w0 w g l p) (hB : Below w0.heap.size w0 w) (hby : Bytes l) (h : numT l p least most er = .error (er', q)) :
    Calls Try.prog 39 #[.pointer (some ⟨g, 0, none⟩), .int .i64 least, .int .i64 most, .int .i64 er] w (FPost w0 w g er' q) := by
  have hpan := run_panic
  unfold numT at h
  rcases hr : ru l p with ⟨n, u, e⟩
  rw [hr] at h
  simp only at h
  have hru : octets_ReadUint.f l p = some (n, u, e) := by unfold octets_ReadUint.f; rw [if_pos hby, hr]
  have HI := Aside0.mk hI
  have HB := Aside0.mk hB
  have HRU := Lib.hid hru
  clear hr hru
  obtain ⟨A, c, hb, hg, hC, hc⟩ := hI
  have c0 : w.cell? ⟨g, 0, none⟩ = some (.slice A l.length c) := (blk_cell hb 0).trans rfl
  have c1 : w.cell? ⟨g, 1, none⟩ = some (.int .i64 p) := (blk_cell hb 1).trans rfl
  have HC := Aside0.mk (Kd.C_below hC hB)
  have HCC := Aside0.mk hc
  clear hC hc hb hB
  by_cases e0 : e ≠ 0
  · rw [if_pos e0] at h
    simp only [Except.error.injEq, Prod.mk.injEq] at h
    obtain ⟨rfl, rfl⟩ := h
    have t0 : (e != 0) = true := by simpa using e0
    clear e0
    go_enter Try.func39, Try.ntmps39
    go_wp2
    go_quiet ((go_at_call 45; exact quiet_d0 (octets_ReadUint.calls _ _ l p n u e _ (Kd.C_drewN HC.out _) HCC.out HRU.out)))
    go_wp2
    exact ⟨rfl, rfl, by repeat (first | (with_reducible first | exact HB.out | apply pw_below_drewN | refine below_set ?_ hg) | exact HB.out), by repeat (first | exact KeepBut.refl _ _ _ | apply keep_drewN)⟩
  rw [if_neg e0] at h
  have t0 : (e != 0) = false := by simpa using e0
  clear e0
  have fin : ∀ (b1 b2 b3 : Bool), decide (n < IntKind.u64.wrap least) = b1 → decide (IntKind.u64.wrap most < n) = b2 → decide (most < least) = b3 → (b1 || b2 || b3) = true → er' = er → q = p → Calls Try.prog 39 #[.pointer (some ⟨g, 0, none⟩), .int .i64 least, .int .i64 most, .int .i64 er] w (FPost w0 w g er' q) := by
    intro b1 b2 b3 t1 t2 t3 hor e1 e2
    subst e1 e2
    clear h
    cases b1 <;> cases b2 <;> cases b3 <;> first | (exact absurd hor (by decide)) | skip
    all_goals
      clear hor
      go_enter Try.func39, Try.ntmps39
      go_wp2
      go_quiet ((go_at_call 45; exact quiet_d0 (octets_ReadUint.calls _ _ l _ n u e _ (Kd.C_drewN HC.out _) HCC.out HRU.out)))
      go_wp2
      exact ⟨rfl, rfl, by repeat (first | (with_reducible first | exact HB.out | apply pw_below_drewN | refine below_set ?_ hg) | exact HB.out), by repeat (first | exact KeepBut.refl _ _ _ | apply keep_drewN)⟩
  by_cases e1 : n < IntKind.u64.wrap least
  · rw [if_pos e1] at h
    simp only [Except.error.injEq, Prod.mk.injEq] at h
    exact fin true _ _ (decide_eq_true e1) rfl rfl (by simp) h.1.symm h.2.symm
  rw [if_neg e1] at h
  by_cases e2 : IntKind.u64.wrap most < n
  · rw [if_pos e2] at h
    simp only [Except.error.injEq, Prod.mk.injEq] at h
    exact fin _ true _ rfl (decide_eq_true e2) rfl (by simp) h.1.symm h.2.symm
  rw [if_neg e2] at h
  by_cases e3 : most < least
  · rw [if_pos e3] at h
    simp only [Except.error.injEq, Prod.mk.injEq] at h
    exact fin _ _ true rfl rfl (decide_eq_true e3) (by simp) h.1.symm h.2.symm
  rw [if_neg e3] at h
  cases h


end Go.Proofs.Ytpcaonkahhbgfaa.P
