/- The solver of strict rules: 'after'. -/
import Derived.Test.YthlmpioijjnmnaaSlv
namespace Go.Proofs.Ythlmpioijjnmnaa.P
open Go.RowKit Go.Proofs.YthlmpioijjnmnaaW.PrintWords Go.Proofs.YthlmpioijjnmnaaW.PrintLast Go.Proofs.YthlmpioijjnmnaaW.PrintMore Go.Proofs.Ythlmpioijjnmnaa.K
set_option linter.unusedVariables false
set_option linter.unusedSimpArgs false

/-- The rules' heads, as they lie. -/
def HeadsAt (w0 : World) (A2 : Option Addr) (m : Nat) (hd : Int → Int) : Prop :=
  ∀ r : Int, 0 ≤ r → r < m → ∃ ad, A2 = some ad ∧ w0.cell? ⟨(ad.add (r.toNat * 3)).block, (ad.add (r.toNat * 3)).off + 1, none⟩ = some (.int .i64 (hd r))
theorem tellV_ins {n : Int} {s s' : SV} {q : Int} {p : Bool} {r : Int} (h : tellV n s q p r = some s') : s'.ins = s.ins := by
  unfold tellV at h
  split at h
  · split at h
    · obtain rfl := Option.some.inj h; rfl
    · obtain rfl := Option.some.inj h; rfl
  · cases h
theorem SvS.inRow {w0 W : World} {ℓ : Nat → Nat} {B : SvB} {n m : Nat} {T : TV} {vt : Value} {vi vr : List Value} {s : SV} {bx : List Nat} {ox : List Obj} {rx : List (Value × List Int)} {q : Int} (h : SvS w0 W ℓ B n m T vt vi vr s bx ox rx) (h0 : 0 ≤ q) (h1 : q < n) :
    W.cell? ⟨B.bi, q.toNat, none⟩ = some (vi.getD q.toNat undef) ∧ Kd.R (Kd.int .i64) 3 W w0.heap.size (fun k => ℓ k = 2 * (1 + q.toNat) + 1) (vi.getD q.toNat undef) (s.ins.getD q.toNat []) := by
  have hl1 : q.toNat < vi.length := by rw [h.L.vi]; omega
  have hl2 : q.toNat < s.ins.length := by rw [h.L.ins]; omega
  have e1 : vi.getD q.toNat undef = vi[q.toNat] := by simp [List.getD_eq_getElem?_getD, List.getElem?_eq_getElem hl1]
  have e2 : s.ins.getD q.toNat [] = s.ins[q.toNat] := by simp [List.getD_eq_getElem?_getD, List.getElem?_eq_getElem hl2]
  rw [e1, e2]
  refine ⟨(h.M.cell 2 rfl rfl q.toNat).trans (by simp [hl1]), h.M.row (1 + q.toNat) _ _ ?_⟩
  unfold svRw
  rw [Nat.add_comm, List.getElem?_cons_succ, List.getElem?_append_left (by simp; omega), List.getElem?_eq_getElem (by simp; omega), List.getElem_zip]
set_option maxHeartbeats 4000000 in
set_option maxRecDepth 100000 in
theorem after_any (w0 w : World) (ℓ : Nat → Nat) (B : SvB) (n m : Nat) (t0 t1 t3 : Value) (A2 : Option Addr) (c2 : Nat) (hd : Int → Int) (vt : Value) (vi vr : List Value) (s s' : SV) (bx : List Nat) (ox : List Obj) (rx : List (Value × List Int)) (q : Int)
    (hS : SvS w0 w ℓ B n m ⟨t0, t1, .slice A2 m c2, t3⟩ vt vi vr s bx ox rx) (hH : HeadsAt w0 A2 m hd) (hq0 : 0 ≤ q) (hq1 : q < n) (h : afterV n m hd q (s.ins.getD q.toNat []) s = some s') :
    Calls Try.prog 36 #[.pointer (some ⟨B.gs, 0, none⟩), .int .i64 q] w fun e w' => e = .returned (.tuple #[]) ∧ ∃ ℓ' vt', SvS w0 w' ℓ' B n m ⟨t0, t1, .slice A2 m c2, t3⟩ vt' vi vr s' bx ox rx := by
  have HS := Aside0.mk hS
  have HH := Aside0.mk hH
  have H := Aside0.mk h
  obtain ⟨k1, k2⟩ := hS.inRow hq0 hq1
  obtain ⟨Ar, cr, eR⟩ := Kd.R_slice k2
  rw [eR] at k1
  have ER := Aside0.mk eR
  have hmx := Kd.C_max (Kd.R_reads' (eR ▸ k2)).2.2
  obtain ⟨_, _, _, _, _, c5, _⟩ := hS.cells
  obtain ⟨xs, hxs⟩ : ∃ xs, xs = s.ins.getD q.toNat [] := ⟨_, rfl⟩
  rw [← hxs] at k1 H ER hmx
  have HX := Aside0.mk hxs
  clear hS hH h k2 eR hxs
  go_enter Try.func36, Try.ntmps36
  go_wp2_with fail
  clear c5 k1
  go_loopw [15] (fun v15 wr => ∃ (j : Nat) (sj : SV) (ℓj : Nat → Nat) (vtj : Value), v15 = .int .i64 j ∧ j ≤ xs.length ∧ Aside0 (SvS w0 wr ℓj B n m ⟨t0, t1, .slice A2 m c2, t3⟩ vtj vi vr sj bx ox rx) ∧ Aside0 (sj.ins = s.ins) ∧ Aside0 (afterV n m hd q (xs.drop j) sj = some s')) (fun v15 _ => xs.length - (intOf v15).toNat)
  case atStart => exact ⟨0, s, ℓ, vt, rfl, Nat.zero_le _, HS, ⟨rfl⟩, ⟨by simpa using H.out⟩⟩
  case round =>
    clear HS H
    obtain ⟨j, sj, ℓj, vtj, rfl, hj, HS, HI, HF⟩ := hrel
    as_aux_lemma =>
    by_cases hlt : j < xs.length
    · have hf := HF.out
      rw [dropR hlt] at hf
      obtain ⟨_, k2⟩ := HS.out.inRow hq0 hq1
      rw [HI.out, ← HX.out, ER.out] at k2
      obtain ⟨ad, rfl, hcell⟩ := Kd.at_int (Kd.R_reads' k2).2.2 (j : Int) (by omega) (by omega)
      simp only [Int.toNat_natCast] at hcell
      clear k2 HF
      generalize rd xs (j : Int) = r at hf hcell
      simp only [afterV] at hf
      by_cases hg : ((0 ≤ r ∧ r < m) ∧ (0 ≤ hd r ∧ hd r < n)) ∧ sm (ga sj.need r) ∧ sm (ga sj.left (hd r)) ∧ sm (ga sj.hgt q)
      rotate_left
      · rw [if_neg hg] at hf; cases hf
      rw [if_pos hg] at hf
      obtain ⟨⟨⟨hr0, hr1⟩, hh0, hh1⟩, ⟨hn0, hn1⟩, ⟨hl0, hl1⟩, ⟨hg0, hg1⟩⟩ := hg
      obtain ⟨ar, rfl, hhd⟩ := HH.out r hr0 hr1
      replace hhd := (HS.out.M.below.cell (World.block_lt_of_cell? w0 _ hhd)).trans hhd
      obtain ⟨_, _, c2', _, _, _, _, c7, c8, c9, c10, _, c12, _⟩ := HS.out.cells
      have dpl := HS.out.atPl hq0 hq1
      have dhe := HS.out.atHe hq0 hq1
      have dne := HS.out.atNe hr0 hr1
      have dde := HS.out.atDe hr0 hr1
      have fne := HS.out.frz.2.2.2.2.1 r.toNat
      have fde := HS.out.frz.2.2.2.2.2.1 r.toNat
      generalize hd r = h at hf hh0 hh1 hhd hl0 hl1
      have dle := HS.out.atLe hh0 hh1
      have fle := HS.out.frz.2.2.2.2.2.2.1 h.toNat
      by_cases hp : gb sj.plus q = true
      · rw [if_pos hp] at hf
        rw [hp] at dpl
        clear hp dde fde dle fle
        have HS1 := Aside0.mk (HS.out.setNe r.toNat (ga sj.need r - 1))
        go_upto_region 6 with fail
        clear c2' c7 c8 c9 c10 c12 dpl dhe dne fne hcell hhd
        generalize wr.setCell ⟨B.ne, r.toNat, none⟩ (.int .i64 (ga sj.need r - 1)) = w1 at HS1 ⊢
        have HLN := Aside0.mk HS.out.L.ne
        clear HS
        as_aux_lemma =>
        obtain ⟨_, _, _, _, _, _, _, c7, _, _, _, _, c12, _⟩ := HS1.out.cells
        have dne := HS1.out.atNe hr0 hr1
        simp only at dne
        rw [ga_set hr0 hr0 (by rw [HLN.out]; exact hr1), if_pos rfl] at dne
        have dhe := HS1.out.atHe hq0 hq1
        simp only at dhe
        by_cases hz : ga sj.need r - 1 = 0
        · rw [if_pos hz] at hf
          obtain ⟨s2, hT, hf⟩ := Option.bind_eq_some_iff.1 hf
          have HT := Aside0.mk hT
          have HF := Aside0.mk hf
          have HI2 := Aside0.mk ((tellV_ins hT).trans HI.out)
          have t1 : (ga sj.need r - 1 == 0) = true := by simpa using hz
          clear hT hf hz
          go_wp2_with fail
          refine (tell_any w0 w1 ℓj B n m _ vtj vi vr _ s2 bx ox rx h true (ga sj.hgt q + 1) HS1.out HT.out).mono ?_
          rintro e w2 ⟨rfl, ℓ2, vt2, hS2⟩
          have HS2 := Aside0.mk hS2
          clear hS2 c7 c12 dne dhe t1 HS1
          go_wp2_with fail
          go_roundw
          case rel => exact ⟨j + 1, s2, ℓ2, vt2, by go_num, by omega, HS2, HI2, HF⟩
          case measure => simp [intOf]; omega
        · rw [if_neg hz] at hf
          have HF := Aside0.mk hf
          have t1 : (ga sj.need r - 1 == 0) = false := by simpa using hz
          clear hf hz
          go_wp2_with fail
          go_roundw
          case rel => exact ⟨j + 1, _, ℓj, vtj, by go_num, by omega, HS1, HI, HF⟩
          case measure => simp [intOf]; omega
      · rw [if_neg hp] at hf
        rw [Bool.eq_false_iff.2 hp] at dpl
        clear hp dne fne
        by_cases hdd : gb sj.dead r = true
        · rw [if_pos hdd] at hf
          rw [hdd] at dde
          have HF := Aside0.mk hf
          clear hdd hf
          go_wp2_with fail
          go_roundw
          case rel => exact ⟨j + 1, _, ℓj, vtj, by go_num, by omega, HS, HI, HF⟩
          case measure => simp [intOf]; omega
        · rw [if_neg hdd] at hf
          rw [Bool.eq_false_iff.2 hdd] at dde
          clear hdd
          have HS1 := Aside0.mk (HS.out.setDe r.toNat true)
          go_upto_region 10 with fail
          clear c2' c7 c8 c9 c10 c12 dpl dhe dde fde hcell hhd dle fle
          generalize wr.setCell ⟨B.de, r.toNat, none⟩ (.bool true) = w1 at HS1 ⊢
          have HLL := Aside0.mk HS.out.L.le
          clear HS
          as_aux_lemma =>
          obtain ⟨_, _, _, _, _, _, _, _, _, c9, _, _, _, _⟩ := HS1.out.cells
          have dle := HS1.out.atLe hh0 hh1
          simp only at dle
          have fle := HS1.out.frz.2.2.2.2.2.2.1 h.toNat
          have HS2 := Aside0.mk (HS1.out.setLe h.toNat (ga sj.left h - 1))
          go_upto_region 11 with fail
          clear c9 dle fle HS1
          generalize w1.setCell ⟨B.le, h.toNat, none⟩ (.int .i64 (ga sj.left h - 1)) = w2 at HS2 ⊢
          as_aux_lemma =>
          obtain ⟨_, _, _, _, c4, _, _, _, _, c9, _, _, c12, _⟩ := HS2.out.cells
          have dle := HS2.out.atLe hh0 hh1
          simp only at dle
          rw [ga_set hh0 hh0 (by rw [HLL.out]; exact hh1), if_pos rfl] at dle
          have dfa := HS2.out.atFa hh0 hh1
          have dhe := HS2.out.atHe hq0 hq1
          simp only at dfa dhe
          by_cases hz : ga sj.left h - 1 = 0
          · have t1 : (ga sj.left h - 1 == 0) = true := by simpa using hz
            by_cases hfa : gb sj.fact h = false
            · rw [if_pos ⟨hz, hfa⟩] at hf
              obtain ⟨s2, hT, hf⟩ := Option.bind_eq_some_iff.1 hf
              have HT := Aside0.mk hT
              have HF := Aside0.mk hf
              have HI2 := Aside0.mk ((tellV_ins hT).trans HI.out)
              rw [hfa] at dfa
              clear hT hf hz hfa
              go_wp2_with fail
              refine (tell_any w0 w2 ℓj B n m _ vtj vi vr _ s2 bx ox rx h false (ga sj.hgt q + 1) HS2.out HT.out).mono ?_
              rintro e w3 ⟨rfl, ℓ2, vt2, hS3⟩
              have HS3 := Aside0.mk hS3
              clear hS3 c4 c9 c12 dle dfa dhe t1 HS2
              go_wp2_with fail
              go_roundw
              case rel => exact ⟨j + 1, s2, ℓ2, vt2, by go_num, by omega, HS3, HI2, HF⟩
              case measure => simp [intOf]; omega
            · rw [if_neg (fun x => hfa x.2)] at hf
              have HF := Aside0.mk hf
              rw [show gb sj.fact h = true by simpa using hfa] at dfa
              clear hf hz hfa
              go_wp2_with fail
              go_roundw
              case rel => exact ⟨j + 1, _, ℓj, vtj, by go_num, by omega, HS2, HI, HF⟩
              case measure => simp [intOf]; omega
          · rw [if_neg (fun x => hz x.1)] at hf
            have HF := Aside0.mk hf
            have t1 : (ga sj.left h - 1 == 0) = false := by simpa using hz
            clear hf hz
            go_wp2_with fail
            go_roundw
            case rel => exact ⟨j + 1, _, ℓj, vtj, by go_num, by omega, HS2, HI, HF⟩
            case measure => simp [intOf]; omega
    · have hf := HF.out
      rw [List.drop_of_length_le (by omega)] at hf
      simp only [afterV, Option.some.injEq] at hf
      subst hf
      go_wp2_with fail
      go_end0
      exact ⟨rfl, _, _, HS.out⟩
end Go.Proofs.Ythlmpioijjnmnaa.P
