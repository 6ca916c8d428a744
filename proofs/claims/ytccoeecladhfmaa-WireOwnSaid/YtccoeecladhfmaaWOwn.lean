/- The walk of WireOwn: what was answered is written over; the answers of the first call stay. -/
import Derived.Test.YtccoeecladhfmaaPx9
import Derived.Test.YtccoeecladhfmaaPx10
namespace Go.Proofs.Ytccoeecladhfmaa.P
open Go.RowKit Go.Proofs.YtccoeecladhfmaaW.PrintWords Go.Proofs.YtccoeecladhfmaaW.PrintLast Go.Proofs.YtccoeecladhfmaaW.PrintMore
set_option linter.unusedVariables false
set_option linter.unusedSimpArgs false

def lexpriorlaw21_WireOwn.f (k : Nat) (l : List S52) (b : List Int) : Option Bool :=
  (lexpriorlaw21_alive.f k).bind fun t => if t = true then (wire_Encode.f k l).bind fun x => (wire_Decode.f b).bind fun y => (lexpriorplain_CopyBytes.f k x.1).bind fun p => (lexpriorplain_CopySteps.f k y.1).bind fun q =>
    (lexpriorplain_SameBytes.f k x.1 p).bind fun s => if s = true then lexpriorplain_SameSteps.f k y.1 q else none else none

/-- n cells of type t, whatever they hold, stand at block b, which was made from base on. -/
def OwnC (W : World) (base t b n : Nat) : Prop := base ≤ b ∧ ∃ cs, W.heap[b]? = some (.cells cs t (0, 0)) ∧ n ≤ cs.size
theorem OwnC.set {W : World} {base t b n : Nat} (h : OwnC W base t b n) (b' i : Nat) (u : Value) : OwnC (W.setCell ⟨b', i, none⟩ u) base t b n := by
  obtain ⟨h0, cs, hc, hn⟩ := h
  by_cases e : b' = b
  · subst e
    exact ⟨h0, _, blk_set hc i u, by simpa using hn⟩
  · exact ⟨h0, cs, blk_far hc (fun x => e (by simpa using x.symm)) u, hn⟩
/-- A slice value whose cells stand. -/
def SlOk (W : World) (base t s : Nat) (v : Value) : Prop := ∃ A n c, v = .slice A n c ∧ n ≤ 9223372036854775807 ∧ (n = 0 ∨ ∃ b, A = some ⟨b, 0, none⟩ ∧ OwnC W base t b (s * n))
theorem SlOk.set {W : World} {base t s : Nat} {v : Value} (h : SlOk W base t s v) (b' i : Nat) (u : Value) : SlOk (W.setCell ⟨b', i, none⟩ u) base t s v := by
  obtain ⟨A, n, c, rfl, hm, h⟩ := h
  refine ⟨A, n, c, rfl, hm, h.imp_right ?_⟩
  rintro ⟨b, rfl, h'⟩
  exact ⟨b, rfl, OwnC.set h' _ _ _⟩
theorem SlOk.nil (W : World) (base t s : Nat) : SlOk W base t s (.slice none 0 0) := ⟨none, 0, 0, rfl, by omega, .inl rfl⟩
/-- The steps that were answered: their own cells, and the cells of each one's choices. -/
def StOk (W : World) (base g m : Nat) : Prop := base ≤ g ∧ ∃ cs, W.heap[g]? = some (.cells cs 52 (0, 0)) ∧ 5 * m ≤ cs.size ∧ ∀ i v, i < m → cs[5 * i + 4]? = some v → SlOk W base 54 2 v
theorem StOk.setIn {W : World} {base g m : Nat} (h : StOk W base g m) {b : Nat} (hb : OwnC W base 54 b 0) (i : Nat) (u : Value) : StOk (W.setCell ⟨b, i, none⟩ u) base g m := by
  obtain ⟨h0, cs, hc, hn, ha⟩ := h
  obtain ⟨_, cs', hc', _⟩ := hb
  have hne : g ≠ b := fun e => by rw [e, hc'] at hc; cases hc
  exact ⟨h0, cs, blk_far hc (by simpa using hne) u, hn, fun i' v hi hv => (ha i' v hi hv).set _ _ _⟩
theorem StOk.setAt {W : World} {base g m : Nat} (h : StOk W base g m) (i : Nat) (u : Value) (hu : i % 5 = 4 → SlOk W base 54 2 u) : StOk (W.setCell ⟨g, i, none⟩ u) base g m := by
  obtain ⟨h0, cs, hc, hn, ha⟩ := h
  refine ⟨h0, _, blk_set hc i u, by simpa using hn, fun i' v hi hv => ?_⟩
  rw [Array.getElem?_setIfInBounds] at hv
  by_cases e : i = 5 * i' + 4
  · rw [if_pos e] at hv
    by_cases hs : i < cs.size
    · rw [if_pos hs] at hv
      obtain rfl := Option.some.inj hv
      exact (hu (by omega)).set _ _ _
    · rw [if_neg hs] at hv; cases hv
  · rw [if_neg e] at hv
    exact (ha i' v hi hv).set _ _ _
theorem OwnC.of {W : World} {base e size n : Nat} {v : Value} {xs : List Value} (h : W.ownsRow base e size v n xs) (hn : n ≤ 9223372036854775807) : SlOk W base e size v := by
  rcases h.2 with ⟨rfl, rfl⟩ | ⟨g, cap, cur, rfl, hg, hc, h1, _, h2, _⟩
  · exact SlOk.nil _ _ _ _
  · exact ⟨_, n, cap, rfl, hn, .inr ⟨g, rfl, hg, cur, hc, by rw [h2, Nat.mul_comm]; exact Nat.mul_le_mul_right _ h1⟩⟩
theorem StOk.of {W : World} {base : Nat} {ok : Nat → Prop} {A : Option Addr} {n c : Nat} {xs : List S52} (h : Kd.R k52 52 W base ok (.slice A n c) xs) : n = 0 ∨ ∃ g, A = some ⟨g, 0, none⟩ ∧ StOk W base g n := by
  have hl := (Kd.R_reads' h).1
  obtain ⟨inner, ho⟩ := Kd.R_own h
  rcases ho.2 with ⟨e, h0⟩ | ⟨g, cap, cur, e, hg, hc, h1, _, h2, _⟩
  · left; cases e; rfl
  · right
    cases e
    refine ⟨g, rfl, hg, cur, hc, by rw [h2]; show 5 * _ ≤ c * 5; omega, fun i v hi hv => ?_⟩
    obtain ⟨cs, hcl, hM, hcc⟩ := Kd.R_get h ⟨0, 0, 0, 0, []⟩ (i : Int) (by omega) (by omega)
    obtain ⟨v4, rfl, hR⟩ := k52_openM hM
    have q := hcc 4 v4 rfl
    have hb := blk_cell hc (5 * i + 4)
    have ea : (⟨g, 0, none⟩ : Addr).add ((i : Int).toNat * 5 + 4) = ⟨g, 5 * i + 4, none⟩ := by simp [Addr.add]; omega
    rw [show k52.sz = 5 from rfl, ea, hb, hv] at q
    obtain rfl := Option.some.inj q
    obtain ⟨inn, hoi⟩ := Kd.R_own hR
    obtain ⟨Ai, ci, hs, _, hC⟩ := Kd.R_reads hR
    exact OwnC.of hoi (Kd.C_max hC)
structure OwSt (wB wr : World) (vc : Value) (n : Nat) (Ad : Option Addr) (m : Nat) : Prop where
  B : Below wB.heap.size wB wr
  c : SlOk wr wB.heap.size 5 1 vc
  d : m = 0 ∨ ∃ g, Ad = some ⟨g, 0, none⟩ ∧ StOk wr wB.heap.size g m
theorem OwSt.setc {wB wr : World} {Ac : Option Addr} {n cc : Nat} {Ad : Option Addr} {m : Nat} (h : OwSt wB wr (.slice Ac n cc) n Ad m) {b : Nat} (hb : OwnC wr wB.heap.size 5 b 0) (i : Nat) (u : Value) : OwSt wB (wr.setCell ⟨b, i, none⟩ u) (.slice Ac n cc) n Ad m := by
  obtain ⟨h1, cs', hc'⟩ := hb
  refine ⟨below_set h.B h1, h.c.set _ _ _, h.d.imp_right ?_⟩
  rintro ⟨g, rfl, h0, cs, hc, hn, ha⟩
  have hne : g ≠ b := fun e => by rw [e, hc'.1] at hc; cases hc
  exact ⟨g, rfl, h0, cs, blk_far hc (by simpa using hne) u, hn, fun i' v hi hv => (ha i' v hi hv).set _ _ _⟩
theorem OwSt.seti {wB wr : World} {vc : Value} {n : Nat} {Ad : Option Addr} {m : Nat} (h : OwSt wB wr vc n Ad m) {b : Nat} (hb : OwnC wr wB.heap.size 54 b 0) (i : Nat) (u : Value) : OwSt wB (wr.setCell ⟨b, i, none⟩ u) vc n Ad m :=
  ⟨below_set h.B hb.1, h.c.set _ _ _, h.d.imp_right fun ⟨g, e, hg⟩ => ⟨g, e, hg.setIn hb i u⟩⟩
theorem OwSt.setg {wB wr : World} {vc : Value} {n g : Nat} {m : Nat} (h : OwSt wB wr vc n (some ⟨g, 0, none⟩) m) (hm : m ≠ 0) (i : Nat) (u : Value) (hu : i % 5 = 4 → SlOk wr wB.heap.size 54 2 u) : OwSt wB (wr.setCell ⟨g, i, none⟩ u) vc n (some ⟨g, 0, none⟩) m := by
  obtain ⟨g', e, hg⟩ := h.d.resolve_left hm
  cases e
  exact ⟨below_set h.B hg.1, h.c.set _ _ _, .inr ⟨g, rfl, hg.setAt i u hu⟩⟩
theorem lexpriorlaw21_WireOwn.calls (k : Nat) (A0 : Option Addr) (c0 : Nat) (l0 : List S52) (A1 : Option Addr) (c1 : Nat) (l1 : List Int) (r : Bool) (w : World) (hr0 : Kd.C k52 w A0 l0.length l0) (hc0 : l0.length ≤ c0) (hr1 : Kd.C (Kd.int .u8) w A1 l1.length l1) (hc1 : l1.length ≤ c1) (h : lexpriorlaw21_WireOwn.f k l0 l1 = some r) :
    Calls Try.prog 7 #[.slice A0 l0.length c0, .slice A1 l1.length c1] w fun e w' => e = .returned (.bool r) ∧ Below w.heap.size w w' := by
  have HR0 := Aside0.mk hr0
  have HC0 := Aside0.mk hc0
  have HR1 := Aside0.mk hr1
  have HC1 := Aside0.mk hc1
  clear hr0 hc0 hr1 hc1
  obtain ⟨t, ht, h⟩ := Option.bind_eq_some_iff.1 h
  obtain rfl : t = true := by
    by_cases e1 : t = true
    · exact e1
    · rw [if_neg e1] at h; cases h
  rw [if_pos rfl] at h
  obtain ⟨⟨x, xe⟩, hx, h⟩ := Option.bind_eq_some_iff.1 h
  obtain ⟨⟨y, ye, yp⟩, hy, h⟩ := Option.bind_eq_some_iff.1 h
  obtain ⟨p, hp, h⟩ := Option.bind_eq_some_iff.1 h
  obtain ⟨q, hq, h⟩ := Option.bind_eq_some_iff.1 h
  obtain ⟨s, hs, h⟩ := Option.bind_eq_some_iff.1 h
  obtain rfl : s = true := by
    by_cases e1 : s = true
    · exact e1
    · rw [if_neg e1] at h; cases h
  rw [if_pos rfl] at h
  have HT := Lib.hid ht
  have HX := Lib.hid hx
  have HY := Lib.hid hy
  have HP := Lib.hid hp
  have HQ := Lib.hid hq
  have HS := Lib.hid hs
  have HZ := Lib.hid h
  clear ht hx hy hp hq hs h
  have HB := Aside0.mk (Below.refl w.heap.size w)
  go_enter Try.func7, Try.ntmps7
  go_wp2_with fail
  refine (lexpriorlaw21_alive.calls k true _ HT.out).mono ?_
  rintro e w1 ⟨rfl, hb⟩
  have HB1 := Aside0.mk (below_step HB.out hb)
  clear hb
  go_wp2_with fail
  refine (wire_Encode.calls k _ _ l0 x xe _ (Kd.C_below HR0.out HB1.out) HC0.out HX.out).mono ?_
  rintro e w2 ⟨vx, rfl, hox, hb⟩
  obtain ⟨Ax, cx, rfl, hlx, hcx⟩ := Kd.R_reads hox
  have HOX := Aside0.mk hcx
  have HLX := Aside0.mk hlx
  have HB2 := Aside0.mk (below_step HB1.out hb)
  clear hb hox hlx hcx
  go_wp2_with fail
  refine (wire_Decode.calls _ _ l1 y ye yp _ (Kd.C_below HR1.out HB2.out) HC1.out HY.out).mono ?_
  rintro e w3 ⟨vy, rfl, hoy, hb⟩
  obtain ⟨Ay, cy, rfl, hly, hcy⟩ := Kd.S_reads hoy
  have HOY := Aside0.mk hcy
  have HLY := Aside0.mk hly
  have HOX3 := Aside0.mk (Kd.C_below HOX.out hb)
  have HB3 := Aside0.mk (below_step HB2.out hb)
  clear hb hoy hly hcy HOX
  go_wp2_with fail
  refine (lexpriorplain_CopyBytes.calls k _ _ x p _ HOX3.out HLX.out HP.out).mono ?_
  rintro e w4 ⟨vp, rfl, hop, hb⟩
  obtain ⟨Ap, cp, rfl, hlp, hcp⟩ := Kd.R_reads hop
  have HOP4 := Aside0.mk hcp
  have HLP := Aside0.mk hlp
  have HOY4 := Aside0.mk (Kd.C_below HOY.out hb)
  have HOX4 := Aside0.mk (Kd.C_below HOX3.out hb)
  have HB4 := Aside0.mk (below_step HB3.out hb)
  clear hb hop hlp hcp HOY HOX3
  go_wp2_with fail
  refine (lexpriorplain_CopySteps.calls k _ _ y q _ HOY4.out HLY.out HQ.out).mono ?_
  rintro e w5 ⟨vq, rfl, hoq, hb⟩
  obtain ⟨Aq, cq, rfl, hlq, hcq⟩ := Kd.S_reads hoq
  have HOQ := Aside0.mk hcq
  have HLQ := Aside0.mk hlq
  have HOX := Aside0.mk (Kd.C_below HOX4.out hb)
  have HOY := Aside0.mk (Kd.C_below HOY4.out hb)
  have HOP := Aside0.mk (Kd.C_below HOP4.out hb)
  have HB5 := Aside0.mk (below_step HB4.out hb)
  clear hb hoq hlq hcq HOX4 HOY4 HOP4
  go_wp2_with fail
  refine (wire_Encode.calls k _ _ l0 x xe _ (Kd.C_below HR0.out HB5.out) HC0.out HX.out).mono ?_
  rintro e w6 ⟨vc, rfl, hoc, hb⟩
  have HF6 := Aside0.mk hb
  have HOC := Aside0.mk hoc
  have HB6 := Aside0.mk (below_step HB5.out hb)
  clear hb hoc
  go_wp2_with fail
  refine (wire_Decode.calls _ _ l1 y ye yp _ (Kd.C_below HR1.out HB6.out) HC1.out HY.out).mono ?_
  rintro e w7 ⟨vd, rfl, hod, hb⟩
  have HOD := Aside0.mk hod
  have HOC7 := Aside0.mk (Kd.R_below HOC.out hb)
  have HF7 := Aside0.mk (below_step HF6.out hb)
  have HF6z := Aside0.mk HF6.out.size
  have HB7 := Aside0.mk (below_step HB6.out hb)
  clear hb hod HOC HF6
  obtain ⟨Ac, cc, ec⟩ := Kd.R_slice HOC7.out
  subst ec
  obtain ⟨Ad, cd, ed⟩ := Kd.S_slice HOD.out
  subst ed
  have hx9 : x.length ≤ 9223372036854775807 := Kd.C_max HOX.out
  have hy9 : y.length ≤ 9223372036854775807 := Kd.C_max HOY.out
  obtain ⟨innc, hoc⟩ := Kd.R_own HOC7.out
  have ST : Aside0 (OwSt w5 w7 (.slice Ac x.length cc) x.length Ad y.length) := ⟨HF7.out, OwnC.of hoc hx9, StOk.of (Kd.R_lower (Kd.S_R HOD.out) HF6z.out)⟩
  clear hoc
  go_wp2_with fail
  go_loopw [17] (fun i wr => ∃ j : Nat, j ≤ x.length ∧ i = .int .i64 j ∧ Aside0 (OwSt w5 wr (.slice Ac x.length cc) x.length Ad y.length)) (fun i _ => x.length - (intOf i).toNat)
  case atStart => exact ⟨0, by omega, rfl, ST⟩
  case round =>
    obtain ⟨j, hj, rfl, HST⟩ := hrel
    by_cases hlt : j < x.length
    · obtain ⟨A, n, c, e, hm, h⟩ := HST.out.c
      cases e
      obtain ⟨b, rfl, ho⟩ := h.resolve_left (by omega)
      obtain ⟨cs, hcs, hn⟩ := ho.2
      obtain ⟨vj, hc1⟩ : ∃ vj, wr.cell? ⟨b, j, none⟩ = some vj := ⟨cs[j]'(by omega), (blk_cell hcs j).trans (Array.getElem?_eq_getElem _)⟩
      have hf1 := blk_frozen hcs j
      have HO := Aside0.mk (HST.out.setc ⟨ho.1, cs, hcs, Nat.zero_le _⟩ j (.int .u8 85))
      clear h ho hcs hn HST
      go_wp2_with fail
      go_roundw
      case rel => exact ⟨j + 1, by omega, by go_num, HO⟩
      case measure => simp [intOf]; omega
    · go_wp2_with fail
      obtain ⟨wo, rfl⟩ : ∃ wo : World, wo = wr := ⟨_, rfl⟩
      go_loopw [18] (fun i wr => ∃ j : Nat, j ≤ y.length ∧ i = .int .i64 j ∧ Aside0 (OwSt w5 wr (.slice Ac x.length cc) x.length Ad y.length)) (fun i _ => y.length - (intOf i).toNat)
      case atStart => exact ⟨0, by omega, rfl, HST⟩
      case round =>
        clear hj hlt HST ST
        obtain ⟨j2, hj2, rfl, HST⟩ := hrel
        by_cases hlt : j2 < y.length
        · go_wp2_with fail
          obtain ⟨wo2, rfl⟩ : ∃ wo : World, wo = wr := ⟨_, rfl⟩
          obtain ⟨g, rfl, hg⟩ := HST.out.d.resolve_left (by omega)
          have hv := hg.2
          obtain ⟨cs, hcs, hn5, ha⟩ := hv
          have ha' := ha j2 (cs[5 * j2 + 4]'(by omega)) hlt (Array.getElem?_eq_getElem _)
          obtain ⟨Ai, ni, ci, ei, hi9, -⟩ := ha'
          have HE := Aside0.mk ei
          have HCS := Aside0.mk hcs
          have HN := Aside0.mk hn5
          have HG := Aside0.mk (show (cs[5 * j2 + 4]'(by omega)) = .slice Ai ni ci from ei)
          clear ei ha hcs hg
          go_loopw [19] (fun i wr => ∃ k2 : Nat, k2 ≤ ni ∧ i = .int .i64 k2 ∧ Aside0 (OwSt w5 wr (.slice Ac x.length cc) x.length (some ⟨g, 0, none⟩) y.length) ∧ Aside0 (wr.heap[g]? = some (.cells cs 52 (0, 0)))) (fun i _ => ni - (intOf i).toNat)
          case atStart => exact ⟨0, by omega, rfl, HST, HCS⟩
          case round =>
            clear HST HCS
            obtain ⟨k2, hk2, rfl, HST, HCS⟩ := hrel
            have hcell : wr.cell? ⟨g, j2 * 5 + 4, none⟩ = some (.slice Ai ni ci) := by
              rw [blk_cell HCS.out, ← HG.out, ← Array.getElem?_eq_getElem, Nat.mul_comm]
            by_cases hlt2 : k2 < ni
            · have hs := HST.out.d.resolve_left (by omega)
              obtain ⟨g', eg, _, cs', hcs', _, ha'⟩ := hs
              cases eg
              rw [HCS.out] at hcs'
              cases hcs'
              obtain ⟨A, n, c, e, _, h⟩ := ha' j2 _ hlt (Array.getElem?_eq_getElem (by omega))
              rw [HG.out] at e
              cases e
              obtain ⟨b, rfl, ho⟩ := h.resolve_left (by omega)
              obtain ⟨hb0, cs2, hcs2, hn2⟩ := ho
              obtain ⟨v1, hc1⟩ : ∃ vj, wr.cell? ⟨b, k2 * 2, none⟩ = some vj := ⟨cs2[k2 * 2]'(by omega), (blk_cell hcs2 _).trans (Array.getElem?_eq_getElem _)⟩
              obtain ⟨v2, hc2⟩ : ∃ vj, wr.cell? ⟨b, k2 * 2 + 1, none⟩ = some vj := ⟨cs2[k2 * 2 + 1]'(by omega), (blk_cell hcs2 _).trans (Array.getElem?_eq_getElem _)⟩
              have hf1 := blk_frozen hcs2 (k2 * 2)
              have hf2 := blk_frozen hcs2 (k2 * 2 + 1)
              have hbg : g ≠ b := fun e => by rw [← e, HCS.out] at hcs2; cases hcs2
              have OB : OwnC wr w5.heap.size 54 b 0 := ⟨hb0, cs2, hcs2, Nat.zero_le _⟩
              have HO := Aside0.mk ((HST.out.seti OB (k2 * 2) (.int .i64 77)).seti (OB.set b (k2 * 2) (.int .i64 77)) (k2 * 2 + 1) (.int .i64 0))
              have HC' := Aside0.mk (blk_far (blk_far HCS.out (p := ⟨b, k2 * 2, none⟩) hbg (.int .i64 77)) (p := ⟨b, k2 * 2 + 1, none⟩) hbg (.int .i64 0))
              clear hcs2 HST HCS ha' h OB
              go_wp2_with fail
              go_roundw
              case rel => exact ⟨k2 + 1, by omega, by go_num, HO, HC'⟩
              case measure => simp [intOf]; omega
            · have hcl : ∀ i, i < 5 → ∃ vj, wr.cell? ⟨g, j2 * 5 + i, none⟩ = some vj := fun i hi => by
                have := HN.out
                exact ⟨cs[j2 * 5 + i]'(by omega), (blk_cell HCS.out _).trans (Array.getElem?_eq_getElem _)⟩
              obtain ⟨x0, hx0⟩ := hcl 0 (by omega)
              obtain ⟨x1, hx1⟩ := hcl 1 (by omega)
              obtain ⟨x2, hx2⟩ := hcl 2 (by omega)
              obtain ⟨x3, hx3⟩ := hcl 3 (by omega)
              rw [Nat.add_zero] at hx0
              have hf0 := blk_frozen HCS.out (j2 * 5)
              have hf1 := blk_frozen HCS.out (j2 * 5 + 1)
              have hf2 := blk_frozen HCS.out (j2 * 5 + 2)
              have hf3 := blk_frozen HCS.out (j2 * 5 + 3)
              have hf4 := blk_frozen HCS.out (j2 * 5 + 4)
              have hm0 : y.length ≠ 0 := by omega
              have HO := Aside0.mk (((((HST.out.setg hm0 (j2 * 5) (.int .i64 0) (fun h => absurd h (by omega))).setg hm0 (j2 * 5 + 1) (.int .i64 77) (fun h => absurd h (by omega))).setg hm0 (j2 * 5 + 2) (.int .i64 0) (fun h => absurd h (by omega))).setg hm0 (j2 * 5 + 3) (.int .i64 0) (fun h => absurd h (by omega))).setg hm0 (j2 * 5 + 4) (.slice none 0 0) (fun _ => SlOk.nil _ _ _ _))
              clear hcl hm0 HST
              go_wp2_with fail
              go_roundw
              case rel => exact ⟨j2 + 1, by omega, by go_num, HO⟩
              case measure => simp [intOf]; omega
        · have HXX := Aside0.mk (Kd.C_below HOX.out HST.out.B)
          have HYY := Aside0.mk (Kd.C_below HOY.out HST.out.B)
          have HPP := Aside0.mk (Kd.C_below HOP.out HST.out.B)
          have HQQ := Aside0.mk (Kd.C_below HOQ.out HST.out.B)
          have HBB := Aside0.mk (below_step HB5.out HST.out.B)
          go_wp2_with fail
          refine (lexpriorplain_SameBytes.calls k _ _ x _ _ p true _ HXX.out HLX.out HPP.out HLP.out HS.out).mono ?_
          rintro e w8 ⟨rfl, ⟨nd, rfl⟩⟩
          go_wp2_with fail
          refine (lexpriorplain_SameSteps.calls k _ _ y _ _ q r _ (Kd.C_drewN HYY.out nd) HLY.out (Kd.C_drewN HQQ.out nd) HLQ.out HZ.out).mono ?_
          rintro e w9 ⟨rfl, hb⟩
          have HF := Aside0.mk (below_step (pw_below_drewN HBB.out nd) hb)
          clear hb
          go_wp2_with fail
          go_ret
          exact ⟨rfl, HF.out⟩
end Go.Proofs.Ytccoeecladhfmaa.P
