/- The program's search for a circle of rules. -/
import Derived.Test.YtpcaonkahhbgfaaFun
import Derived.Test.YtpcaonkahhbgfaaMine
namespace Go.Proofs.Ytpcaonkahhbgfaa.P
open Go.RowKit Go.Proofs.YtpcaonkahhbgfaaW.PrintWords Go.Proofs.YtpcaonkahhbgfaaW.PrintLast Go.Proofs.YtpcaonkahhbgfaaW.PrintMore Go.Proofs.Ytpcaonkahhbgfaa.K
set_option linter.unusedVariables false
set_option linter.unusedSimpArgs false

def nxL (l : List (List Int)) (v : Int) : List Int := l.getD v.toNat []
def cntF : List Int → List Int → Option (List Int)
  | [], sz => some sz
  | x :: xs, sz => if (0 ≤ x ∧ x < sz.length) ∧ 0 ≤ ga sz x ∧ ga sz x < 1000000 then cntF xs (sz.set x.toNat (ga sz x + 1)) else none
theorem cntF_len : ∀ (xs sz r : List Int), cntF xs sz = some r → r.length = sz.length
  | [], sz, r, h => by cases h; rfl
  | x :: xs, sz, r, h => by
    simp only [cntF] at h
    split at h
    · rw [cntF_len xs _ r h, List.length_set]
    · cases h
def circF (n : Nat) (l3 : List (List Int)) : Option Int :=
  if n = l3.length ∧ n ≤ 4096 then (knotK (nxL l3) n).bind fun s => if 0 ≤ s.kn ∧ s.kn ≤ 4096 then (cntF s.of (List.replicate s.kn.toNat 0)).bind fun sz =>
    if (s.of.all fun x => decide (0 ≤ x) && decide (x < sz.length)) = true then some (idxF (fun x => decide (1 < ga sz x)) s.of 0) else none else none else none
theorem at_rows {w : World} {A : Option Addr} {n : Nat} {xs : List (List Int)} (h : Kd.C (Kd.slice 3 (Kd.int .i64)) w A n xs) (i : Int) (h0 : 0 ≤ i) (h1 : i < n) : ∃ ad A0 c0, A = some ad ∧ w.cell? (ad.add i.toNat) = some (.slice A0 (nxL xs i).length c0) ∧ (nxL xs i).length ≤ c0 ∧ (Kd.int .i64).C w A0 (nxL xs i).length (nxL xs i) := by
  obtain ⟨ad, c, e, _, hK, hc0⟩ := Kd.C_get h ([] : List Int) i h0 h1
  have hc : ∀ j u, c[j]? = some u → w.cell? (ad.add (i.toNat * 1 + j)) = some u := hc0
  obtain ⟨A0, c0, rfl, l0, g0⟩ := hK
  exact ⟨ad, A0, c0, e, by have hq := hc 0 _ rfl; rwa [Nat.mul_one, Nat.add_zero] at hq, l0, g0⟩
set_option maxHeartbeats 1000000 in
theorem circle_next (gt : Nat) (v0 v1 v2 : Value) (A3 : Option Addr) (c3 : Nat) (l3 : List (List Int)) (n : Nat) (hn : n ≤ l3.length) (w0 : World) (hb : w0.heap[gt]? = some (.cells #[v0, v1, v2, .slice A3 l3.length c3] 25 (0, 0)))
    (hC : Kd.C (Kd.slice 3 (Kd.int .i64)) w0 A3 l3.length l3) : NextOk 34 #[.pointer (some ⟨gt, 0, none⟩)] (nxL l3) n w0 := by
  refine ⟨fun args W => enters_ Try.func34 (by kernel_rfl) rfl args W, fun W hB v h0 h1 => ?_⟩
  obtain ⟨ad, A0, c0, rfl, hcell, hl, hC0⟩ := at_rows hC v h0 (by omega)
  have hcell' := (hB.cell (World.block_lt_of_cell? w0 _ hcell)).trans hcell
  have k3 : W.cell? ⟨gt, 3, none⟩ = some (.slice (some ad) l3.length c3) := (hB.cell (p := ⟨gt, 3, none⟩) (blk_lt hb)).trans ((blk_cell hb 3).trans rfl)
  have h2 : v < (l3.length : Int) := by omega
  have HC := Aside0.mk hC0
  clear hC hC0 hcell hb hB h1
  go_enter Try.func34, Try.ntmps34
  go_wp2_with fail
  go_ret
  exact ⟨rfl, A0, c0, rfl, HC.out⟩
set_option maxHeartbeats 1000000 in
theorem circle_size (gz gs : Nat) (sz xs : List Int) (hx : ∀ x, x ∈ xs → 0 ≤ x ∧ x < sz.length) (w0 : World) (hz : w0.heap[gz]? = some (.cells #[.slice (some ⟨gs, 0, none⟩) sz.length sz.length] 26 (0, 0))) (hs : w0.heap[gs]? = some (.cells (ints sz) 3 (0, 0))) :
    FnP 36 #[.pointer (some ⟨gz, 0, none⟩)] (fun x => decide (1 < ga sz x)) xs w0 := by
  refine ⟨fun args W => enters_ Try.func36 (by kernel_rfl) rfl args W, fun W hB x hm => ?_⟩
  obtain ⟨h0, h1⟩ := hx x hm
  have k0 : W.cell? ⟨gz, 0, none⟩ = some (.slice (some ⟨gs, 0, none⟩) sz.length sz.length) := (hB.cell (p := ⟨gz, 0, none⟩) (blk_lt hz)).trans ((blk_cell hz 0).trans rfl)
  have k1 : W.cell? ⟨gs, x.toNat, none⟩ = some (.int .i64 (ga sz x)) := (hB.cell (p := ⟨gs, x.toNat, none⟩) (blk_lt hs)).trans ((blk_cell hs _).trans (ints_at h0 h1))
  clear hz hs hB hm hx
  go_enter Try.func36, Try.ntmps36
  go_wp2_with fail
  go_ret
  exact ⟨rfl, Below.refl _ _⟩
set_option maxHeartbeats 4000000 in
set_option maxRecDepth 100000 in
theorem circle_any (a0_0 : Int) (V1 : Value) (n2 : Nat) (A2 : Option Addr) (c2 : Nat) (A3 : Option Addr) (c3 : Nat) (l3 : List (List Int)) (r : Int) (w : World) (hr3 : Kd.C (Kd.slice 3 (Kd.int .i64)) w A3 l3.length l3) (h : circF n2 l3 = some r) :
    Calls Try.prog 21 #[.agg #[.int .i64 a0_0, V1, .slice A2 n2 c2, .slice A3 l3.length c3]] w fun e w' => e = .returned (.int .i64 r) ∧ Below w.heap.size w w' := by
  unfold circF at h
  by_cases hl : n2 = l3.length ∧ n2 ≤ 4096
  rotate_left
  · rw [if_neg hl] at h; cases h
  rw [if_pos hl] at h
  obtain ⟨hl1, hl2⟩ := hl
  obtain ⟨s, hK, h⟩ := Option.bind_eq_some_iff.1 h
  by_cases hkn : 0 ≤ s.kn ∧ s.kn ≤ 4096
  rotate_left
  · rw [if_neg hkn] at h; cases h
  rw [if_pos hkn] at h
  obtain ⟨hk0, hk1⟩ := hkn
  obtain ⟨sz, hC, h⟩ := Option.bind_eq_some_iff.1 h
  by_cases hall : (s.of.all fun x => decide (0 ≤ x) && decide (x < sz.length)) = true
  rotate_left
  · rw [if_neg hall] at h; cases h
  rw [if_pos hall] at h
  have hr := Option.some.inj h
  have HX := Aside0.mk (show ∀ x, x ∈ s.of → 0 ≤ x ∧ x < (sz.length : Int) from fun x hx => by have := List.all_eq_true.1 hall x hx; simpa using this)
  have HK := Aside0.mk hK
  have HC := Aside0.mk hC
  have HR := Aside0.mk hr
  have HL := Aside0.mk hl1
  have hW1 := blk_new w (.cells #[.int .i64 a0_0, V1, .slice A2 n2 c2, .slice A3 l3.length c3] 25 (0, 0))
  have HN := Aside0.mk (circle_next w.heap.size _ _ _ A3 c3 l3 n2 (by omega) _ hW1 (Kd.C_alloc hr3 _))
  have k2 := (blk_cell hW1 2).trans rfl
  clear hr3 hC hK hall h hr hl1 hW1
  go_enter Try.func21, Try.ntmps21
  go_wp2_with fail
  refine (knot_any 34 #[.pointer (some ⟨w.heap.size, 0, none⟩)] (nxL l3) n2 hl2 _ HN.out s HK.out).mono ?_
  rintro e w2 ⟨B, vst, rfl, hS⟩
  have HS := Aside0.mk hS
  have HB := Aside0.mk (below_step (below_alloc (Below.refl w.heap.size w) (.cells #[.int .i64 a0_0, V1, .slice A2 n2 c2, .slice A3 l3.length c3] 25)) hS.below)
  clear hS k2 HN
  obtain ⟨_, _, _, _, _, k5, _, k7, _⟩ := HS.out.cells
  obtain ⟨m, hm⟩ := Int.eq_ofNat_of_zero_le hk0
  rw [hm] at k7 hk1 HC
  simp only [Int.toNat_natCast] at HC
  have MI := fun w => mk_run (P := Try.prog) 26 3 (.int .i64 0) 8 Try.underlying26 infoI rfl m (by omega) (by omega) w
  have hlof := HS.out.lof
  have HLO := Aside0.mk hlof
  clear hm hk0 hlof
  have hlt := blk_lt HS.out.blk
  have hltf := blk_lt HS.out.of
  go_wp2_with fail
  have e1 : ((w2.alloc (.cells (Array.replicate m (.int .i64 0)) 3)).alloc (.cells #[.slice (some ⟨w2.heap.size, 0, none⟩) m m] 26)).heap[w2.heap.size]? = some (.cells (ints (List.replicate m 0)) 3 (0, 0)) := by
    have := blk_alloc (blk_new w2 (.cells (Array.replicate m (.int .i64 0)) 3 (0, 0))) (.cells #[.slice (some ⟨w2.heap.size, 0, none⟩) m m] 26 (0, 0))
    simpa [ints, nums] using this
  have e2 : ((w2.alloc (.cells (Array.replicate m (.int .i64 0)) 3)).alloc (.cells #[.slice (some ⟨w2.heap.size, 0, none⟩) m m] 26)).heap[w2.heap.size + 1]? = some (.cells #[.slice (some ⟨w2.heap.size, 0, none⟩) m m] 26 (0, 0)) := by
    have := blk_new (w2.alloc (.cells (Array.replicate m (.int .i64 0)) 3)) (.cells #[.slice (some ⟨w2.heap.size, 0, none⟩) m m] 26 (0, 0))
    simpa using this
  have e3 := blk_alloc (blk_alloc HS.out.of (.cells (Array.replicate m (.int .i64 0)) 3 (0, 0))) (.cells #[.slice (some ⟨w2.heap.size, 0, none⟩) m m] 26 (0, 0))
  have e4 := blk_alloc (blk_alloc HS.out.blk (.cells (Array.replicate m (.int .i64 0)) 3 (0, 0))) (.cells #[.slice (some ⟨w2.heap.size, 0, none⟩) m m] 26 (0, 0))
  have e5 := below_alloc (below_alloc HB.out (.cells (Array.replicate m (.int .i64 0)) 3 (0, 0))) (.cells #[.slice (some ⟨w2.heap.size, 0, none⟩) m m] 26 (0, 0))
  have hge := HB.out.size
  have E1 := Aside0.mk e1
  have E2 := Aside0.mk e2
  have E3 := Aside0.mk e3
  have E4 := Aside0.mk e4
  have E5 := Aside0.mk e5
  clear e1 e2 e3 e4 e5 MI HB HS k5 k7
  obtain ⟨w3, hw3⟩ : ∃ w3, w3 = (w2.alloc (.cells (Array.replicate m (.int .i64 0)) 3)).alloc (.cells #[.slice (some ⟨w2.heap.size, 0, none⟩) m m] 26) := ⟨_, rfl⟩
  rw [← hw3] at E1 E2 E3 E4 E5 ⊢
  clear hw3
  obtain ⟨gs, hgs⟩ : ∃ gs, gs = w2.heap.size := ⟨_, rfl⟩
  rw [← hgs] at E1 E2 hlt hltf hge ⊢
  clear hgs
  go_loopw [22] (fun v22 wr => ∃ (j : Nat) (sj : List Int), v22 = .int .i64 j ∧ j ≤ n2 ∧ sj.length = m ∧ Aside0 (cntF (s.of.drop j) sj = some sz) ∧ Aside0 (wr.heap[gs]? = some (.cells (ints sj) 3 (0, 0))) ∧ Aside0 (wr.heap[gs + 1]? = some (.cells #[.slice (some ⟨gs, 0, none⟩) m m] 26 (0, 0))) ∧
      Aside0 (wr.heap[B.bf]? = some (.cells (ints s.of) 3 (0, 0))) ∧ Aside0 (∃ cs, wr.heap[B.g]? = some (.cells cs 72 (0, 0)) ∧ cs[5]? = some (.slice (some ⟨B.bf, 0, none⟩) n2 n2)) ∧ Aside0 (Below w.heap.size w wr)) (fun v22 _ => n2 - (intOf v22).toNat)
  case atStart => exact ⟨0, _, rfl, Nat.zero_le _, List.length_replicate .., HC, E1, E2, E3, ⟨_, E4.out, rfl⟩, E5⟩
  case round =>
    clear HC E1 E2 E3 E4 E5
    obtain ⟨j, sj, rfl, hj, hsj, HC, E1, E2, E3, E4, E5⟩ := hrel
    have HSJ := Aside0.mk hsj
    clear hsj
    have d2 : wr.cell? ⟨gs + 1, 0, none⟩ = some (.slice (some ⟨gs, 0, none⟩) m m) := (blk_cell E2.out 0).trans rfl
    by_cases hlt2 : j < n2
    · have hlo : j < s.of.length := by rw [HLO.out]; exact hlt2
      have hc := HC.out
      rw [dropR hlo] at hc
      have d1 : wr.cell? ⟨B.bf, j, none⟩ = some (.int .i64 (ga s.of j)) := by
        have := ints_at (xs := s.of) (i := (j : Int)) (by omega) (by omega)
        simp only [Int.toNat_natCast] at this
        exact (blk_cell E3.out j).trans this
      have hga : rd s.of (j : Int) = ga s.of (j : Int) := rfl
      rw [hga] at hc
      clear hga HC
      generalize ga s.of (j : Int) = x at hc d1
      simp only [cntF] at hc
      by_cases hx : (0 ≤ x ∧ x < sj.length) ∧ 0 ≤ ga sj x ∧ ga sj x < 1000000
      rotate_left
      · rw [if_neg hx] at hc; cases hc
      rw [if_pos hx] at hc
      obtain ⟨⟨hx0, hx1⟩, hx2, hx3⟩ := hx
      have d3 : wr.cell? ⟨gs, x.toNat, none⟩ = some (.int .i64 (ga sj x)) := (blk_cell E1.out _).trans (ints_at hx0 hx1)
      have f3 := blk_frozen E1.out x.toNat
      have hx1' : x < (m : Int) := by rw [HSJ.out] at hx1; exact hx1
      have HC := Aside0.mk hc
      clear hc hlo
      go_wp2_with fail
      have ne1 : B.bf ≠ gs := by omega
      have ne2 : B.g ≠ gs := by omega
      obtain ⟨cs, q1, q2⟩ := E4.out
      have F1 := Aside0.mk (show (wr.setCell ⟨gs, x.toNat, none⟩ (.int .i64 (ga sj x + 1))).heap[gs]? = some (.cells (ints (sj.set x.toNat (ga sj x + 1))) 3 (0, 0)) from by have := blk_set E1.out x.toNat (.int .i64 (ga sj x + 1)); rwa [ints_set] at this)
      have F2 := Aside0.mk (blk_far E2.out (p := ⟨gs, x.toNat, none⟩) (by simp) (.int .i64 (ga sj x + 1)))
      have F3 := Aside0.mk (blk_far E3.out (p := ⟨gs, x.toNat, none⟩) ne1 (.int .i64 (ga sj x + 1)))
      have F4 := Aside0.mk (blk_far q1 (p := ⟨gs, x.toNat, none⟩) ne2 (.int .i64 (ga sj x + 1)))
      have F5 := Aside0.mk (below_set (j := x.toNat) E5.out (by omega) (v := .int .i64 (ga sj x + 1)))
      go_roundw
      case rel => exact ⟨j + 1, _, by go_num, by omega, by rw [List.length_set]; exact HSJ.out, HC, F1, F2, F3, ⟨cs, F4.out, q2⟩, F5⟩
      case measure => simp [intOf]; omega
    · have hc := HC.out
      rw [List.drop_of_length_le (by rw [HLO.out]; omega)] at hc
      simp only [cntF, Option.some.injEq] at hc
      subst hc
      obtain ⟨cs, q1, q2⟩ := E4.out
      have k5 : wr.cell? ⟨B.g, 5, none⟩ = some (.slice (some ⟨B.bf, 0, none⟩) n2 n2) := (blk_cell q1 5).trans q2
      have hfin := indexFunc_any 36 #[.pointer (some ⟨gs + 1, 0, none⟩)] (fun x => decide (1 < ga sj x)) (some ⟨B.bf, 0, none⟩) n2 s.of wr (Kd.C_blk E3.out rfl rfl (by rw [HLO.out]; omega)) (circle_size (gs + 1) gs sj s.of HX.out wr (by rw [HSJ.out]; exact E2.out) E1.out)
      rw [HLO.out] at hfin
      have HF := Aside0.mk hfin
      clear hfin q1 q2
      go_wp2_with fail
      refine HF.out.mono ?_
      rintro e w4 ⟨rfl, hb⟩
      have HB := Aside0.mk (below_step E5.out hb)
      clear hb
      rw [HR.out]
      clear d2 k5
      go_wp2_with fail
      go_ret
      exact ⟨rfl, HB.out⟩
end Go.Proofs.Ytpcaonkahhbgfaa.P
