/- Strict proof, plain: what the program's functions tell. -/
import Derived.Test.YthlmpioijjnmnaaThyP
import Derived.Test.YthlmpioijjnmnaaSlvr
namespace Go.Proofs.Ythlmpioijjnmnaa.P
open Go.RowKit Go.Proofs.YthlmpioijjnmnaaW.PrintWords Go.Proofs.Ythlmpioijjnmnaa.K Go.Proofs.Ythlmpioijjnmnaa.S
set_option linter.unusedVariables false
set_option linter.unusedSimpArgs false

def tri (rs : List S37) : List (Int × Int × List Int) := rs.map fun x => (x.f0, x.f1, x.f2)
/-- The theory, as the solver has it. -/
def thyS (a0 : Int) (rs : List S37) : Thy := ⟨a0.toNat, rs.length, kdT (tri rs), hdT (tri rs), bdT (tri rs)⟩
def gvS (a0 : Int) (fo : List (List Int)) (rs : List S37) (be : List (List Int)) (l : List Int) : Int := if (chkS a0 fo rs be).1 = 0 then if ris l a0 = true then 0 else 181 else (chkS a0 fo rs be).1
section
variable {a0 : Int} {fo be : List (List Int)} {rs : List S37} {l : List Int}
theorem tri_at {r : Int} (h0 : 0 ≤ r) (h1 : r < rs.length) : (tri rs).getD r.toNat (0, 0, []) = ((rd_T37 rs r).f0, (rd_T37 rs r).f1, (rd_T37 rs r).f2) := by
  have hl : r.toNat < rs.length := by omega
  simp [tri, rd_T37, List.getD_eq_getElem?_getD, List.getElem?_eq_getElem hl]
theorem thyS_rule {r : Int} (h0 : 0 ≤ r) (h1 : r < rs.length) : (thyS a0 rs).kd r = (rd_T37 rs r).f0 ∧ (thyS a0 rs).hd r = (rd_T37 rs r).f1 ∧ (thyS a0 rs).bd r = (rd_T37 rs r).f2 := by
  refine ⟨?_, ?_, ?_⟩
  · show ((tri rs).getD r.toNat (0, 0, [])).1 = _
    rw [tri_at h0 h1]
  · show ((tri rs).getD r.toNat (0, 0, [])).2.1 = _
    rw [tri_at h0 h1]
  · show ((tri rs).getD r.toNat (0, 0, [])).2.2 = _
    rw [tri_at h0 h1]
theorem thy_ok (h : Pre a0 fo rs) : (thyS a0 rs).Ok := by
  have ha := h.an
  have mem : ∀ r : Int, 0 ≤ r → r < rs.length → rd_T37 rs r ∈ rs := fun r h0 h1 => by
    have := rdT_mem (l := rs) (j := r.toNat) (by omega)
    rwa [Int.toNat_of_nonneg h0] at this
  have hn : ((thyS a0 rs).n : Int) = a0 := by show ((a0.toNat : Nat) : Int) = a0; omega
  refine ⟨fun r hr => ?_, fun r hr b hb => ?_, fun r hr => ?_, ?_, h.r4⟩
  · obtain ⟨_, e, _⟩ := thyS_rule (a0 := a0) hr.1.1 hr.1.2
    have := (rule_of (h.rule _ (mem r hr.1.1 hr.1.2))).2.1
    unfold Thy.Rg
    rw [hn, e]
    exact this
  · obtain ⟨_, _, e⟩ := thyS_rule (a0 := a0) hr.1.1 hr.1.2
    have := (rule_of (h.rule _ (mem r hr.1.1 hr.1.2))).2.2.2
    rw [e] at hb
    unfold Thy.Rg
    rw [hn]
    exact (ris_iff.1 this).1 b hb
  · obtain ⟨_, _, e⟩ := thyS_rule (a0 := a0) hr.1.1 hr.1.2
    rw [e]
    exact ris_nodup (rule_of (h.rule _ (mem r hr.1.1 hr.1.2))).2.2.2
  · show a0.toNat ≤ 4096
    omega
theorem given_ev (hf : WfRows fo) (hb : WfRows be) (hl : WfRow l) : Ev (fun k => strict_given.f k a0 fo rs be l) (gvS a0 fo rs be l) := by
  unfold strict_given.f gvS
  refine Ev.bind (check_ev hf hb) ?_
  by_cases h : (chkS a0 fo rs be).1 = 0
  · simp only [if_pos h]
    exact Ev.bind (facts_ev hl) (Ev.now _)
  · simp only [if_neg h]
    exact Ev.now _
theorem gv_zero (h : gvS a0 fo rs be l = 0) : (chkS a0 fo rs be).1 = 0 ∧ ris l a0 = true := by
  unfold gvS at h
  by_cases h1 : (chkS a0 fo rs be).1 = 0
  · rw [if_pos h1] at h
    by_cases h2 : ris l a0 = true
    · exact ⟨h1, h2⟩
    · rw [if_neg h2] at h; cases h
  · rw [if_neg h1] at h; exact absurd h h1
theorem gv_of (h1 : (chkS a0 fo rs be).1 = 0) (h2 : ris l a0 = true) : gvS a0 fo rs be l = 0 := by
  unfold gvS; rw [if_pos h1, if_pos h2]
/-- What is solved, of a theory and facts that may be. -/
theorem solved_ev (h : gvS a0 fo rs be l = 0) : ∃ s, solveT a0 (tri rs) l = some s ∧ Solved (thyS a0 rs) l s ∧ (thyS a0 rs).Ok ∧ 0 < 1 := by
  obtain ⟨h1, h2⟩ := gv_zero h
  obtain ⟨hp, _⟩ := check_pre h1
  have hok := thy_ok hp
  have ha := hp.an
  have h4 := hp.r4
  have hF : ∀ q, q ∈ l → (thyS a0 rs).Rg q := fun q hq => by
    have := (ris_iff.1 h2).1 q hq
    show 0 ≤ q ∧ q < ((a0.toNat : Nat) : Int)
    omega
  obtain ⟨s1, s2, s3, s, e1, e2, e3, e4, hs⟩ := solve_ok hok hF
  refine ⟨s, ?_, hs, hok, by decide⟩
  have ht : (tri rs).length = rs.length := by simp [tri]
  unfold solveT solveF
  rw [if_pos ha.1, if_pos ⟨by omega, by omega⟩, ht]
  have e1 : factsV (a0.toNat : Nat) l (zeroV a0.toNat rs.length) = some s1 := e1
  rw [e1]
  simp only [Option.bind_some]
  have e2 : rulesV (a0.toNat : Nat) (kdT (tri rs)) (hdT (tri rs)) (bdT (tri rs)) (irange rs.length) s1 = some s2 := e2
  rw [e2]
  simp only [Option.bind_some]
  have e3 : noneV (a0.toNat : Nat) (irange a0.toNat) s2 = some s3 := e3
  rw [e3]
  simp only [Option.bind_some]
  exact e4
theorem pick_bad {p : SV → Int → Bool} (h : gvS a0 fo rs be l ≠ 0) : pickT (gvS a0 fo rs be l) a0 (tri rs) l p = some ([], gvS a0 fo rs be l) := by
  unfold pickT; rw [if_neg h]
theorem pick_good {p : SV → Int → Bool} {s : SV} (h : gvS a0 fo rs be l = 0) (hs : solveT a0 (tri rs) l = some s) : pickT (gvS a0 fo rs be l) a0 (tri rs) l p = some (pickF p s (irange a0.toNat), 0) := by
  unfold pickT; rw [if_pos h, hs]; rfl
theorem plus_ev (hf : WfRows fo) (hb : WfRows be) (hl : WfRow l) {r : List Int × Int} (h : pickT (gvS a0 fo rs be l) a0 (tri rs) l pPlus = some r) : Ev (fun k => strict_Plus.f k a0 fo rs be l) r := by
  unfold strict_Plus.f
  refine Ev.bind (given_ev hf hb hl) ?_
  exact Ev.congr (fun _ => h) (Ev.now r)
theorem minus_ev (hf : WfRows fo) (hb : WfRows be) (hl : WfRow l) {r : List Int × Int} (h : pickT (gvS a0 fo rs be l) a0 (tri rs) l pMinus = some r) : Ev (fun k => strict_Minus.f k a0 fo rs be l) r := by
  unfold strict_Minus.f
  refine Ev.bind (given_ev hf hb hl) ?_
  exact Ev.congr (fun _ => h) (Ev.now r)
theorem loop_ev (hf : WfRows fo) (hb : WfRows be) (hl : WfRow l) {lit : Int} {r : List Int × Int} (h : loopT (gvS a0 fo rs be l) a0 (tri rs) l lit = some r) : Ev (fun k => strict_Loop.f k a0 fo rs be l lit) r := by
  unfold strict_Loop.f
  refine Ev.bind (given_ev hf hb hl) ?_
  exact Ev.congr (fun _ => h) (Ev.now r)
end
theorem pickF_filter (p : SV → Int → Bool) (s : SV) : ∀ l, pickF p s l = l.filter (p s)
  | [] => rfl
  | q :: qs => by
    unfold pickF
    rw [List.filter_cons, pickF_filter p s qs]
theorem irange_rise (n : Nat) : (irange n).Pairwise (· < ·) := by
  unfold irange
  rw [List.pairwise_map]
  exact (List.pairwise_lt_range (n := n)).imp (fun h => by omega)
theorem pickF_mem {p : SV → Int → Bool} {s : SV} {n : Nat} {x : Int} : x ∈ pickF p s (irange n) ↔ (0 ≤ x ∧ x < n) ∧ p s x = true := by
  rw [pickF_filter, List.mem_filter, irange_mem]
theorem pickF_ris (p : SV → Int → Bool) (s : SV) (n : Nat) : ris (pickF p s (irange n)) n = true := by
  rw [ris_iff]
  refine ⟨fun x hx => (pickF_mem.1 hx).1, ?_⟩
  rw [pickF_filter]
  exact (irange_rise n).filter _
theorem mkd_ok (n : Int) (l : List Int) (h : ris l n = true) : ∀ (f i : Nat) (s : List Bool), i + f = l.length → (s.length : Int) = n → ∃ b, mkdV n l f i s = (b, true) ∧ (b.length : Int) = n ∧ ∀ x, 0 ≤ x → x < n → (gb b x = true ↔ gb s x = true ∨ x ∈ l.drop i)
  | 0, i, s, hi, hs => ⟨s, rfl, hs, fun x _ _ => by rw [List.drop_of_length_le (by omega)]; simp⟩
  | f + 1, i, s, hi, hs => by
    obtain ⟨h1, h2⟩ := ris_iff.1 h
    have hm := h1 _ (rd_mem (l := l) (j := i) (by omega))
    obtain ⟨b, b1, b2, b3⟩ := mkd_ok n l h f (i + 1) (s.set (rd l i).toNat true) (by omega) (by rw [List.length_set]; exact hs)
    refine ⟨b, ?_, b2, fun x x0 x1 => ?_⟩
    · unfold mkdV
      rw [if_neg, b1]
      rintro (h' | h' | ⟨h', h''⟩)
      · omega
      · omega
      · have e : ((i : Int) - 1) = ((i - 1 : Nat) : Int) := by omega
        rw [e, rd_get (show i < l.length by omega), rd_get (show i - 1 < l.length by omega)] at h''
        have := (List.pairwise_iff_getElem.1 h2) (i - 1) i (by omega) (by omega) (by omega)
        omega
    · rw [b3 x x0 x1, gb_set hm.1 x0 (by omega), dropR (show i < l.length by omega), List.mem_cons]
      by_cases e : x = rd l i
      · simp [e]
      · simp [e]
/-- 'marked' of a list that rises. -/
theorem marked_ok {n : Int} {l : List Int} (h0 : 0 ≤ n) (h1 : n ≤ 4096) (h : ris l n = true) : ∃ b, lexpriorlaw14_marked.f n l = some (b, true) ∧ (b.length : Int) = n ∧ ∀ x, 0 ≤ x → x < n → (gb b x = true ↔ x ∈ l) := by
  obtain ⟨b, b1, b2, b3⟩ := mkd_ok n l h l.length 0 (List.replicate n.toNat false) (by omega) (by rw [List.length_replicate]; omega)
  refine ⟨b, ?_, b2, fun x x0 x1 => ?_⟩
  · unfold lexpriorlaw14_marked.f
    rw [if_pos ⟨h0, by omega⟩, b1]
  · rw [b3 x x0 x1, List.drop_zero, K.gb_rep]
    simp
/-- +D and -D by rounds. -/
theorem solved_plus {T : Thy} {F : List Int} {s : SV} (h : Solved T F s) {q : Int} (hq : T.Rg q) : gb s.plus q = true ↔ ∃ k, T.pl (fun x => x ∈ F) k q := by
  constructor
  · intro hp
    have := h.tells.one q (.inl ⟨hq, hp⟩)
    exact ⟨(ga s.hgt q).toNat, (h.tells.pl _ q).2 ⟨⟨hq, hp⟩, by omega⟩⟩
  · rintro ⟨k, hk⟩
    exact ((h.tells.pl k q).1 hk).1.2
theorem solved_minus {T : Thy} {F : List Int} {s : SV} (h : Solved T F s) (hT : T.Ok) {q : Int} (hq : T.Rg q) : gb s.minus q = true ↔ ∃ k, T.mi (fun x => x ∈ F) k q := by
  have hb : ∀ r, T.St r → ∀ b, b ∈ T.bd r → 0 ≤ b ∧ b < T.n := hT.bd
  constructor
  · intro hp
    have := h.tells.one q (.inr ⟨hq, hp⟩)
    exact ⟨(ga s.hgt q).toNat, (h.tells.mi' _ q hq.1 hq.2 hb).2 ⟨⟨hq, hp⟩, by omega⟩⟩
  · rintro ⟨k, hk⟩
    exact ((h.tells.mi' k q hq.1 hq.2 hb).1 hk).1.2
theorem same_refl : ∀ (d i : Nat) (l : List Int), i + d = l.length → l.length ≤ 140737488351232 → Ev (fun k => lexpriorplain_SameInts.l0 k l l i) true
  | 0, i, l, hi, hl => by
    refine Ev.step (fun _ => rfl) ?_
    simp only [lexpriorplain_SameInts.l0, if_neg (show ¬ (i : Int) < (l.length : Int) by omega)]
    exact Ev.now _
  | d + 1, i, l, hi, hl => by
    refine Ev.step (fun _ => rfl) ?_
    simp only [lexpriorplain_SameInts.l0, if_pos (show (i : Int) < (l.length : Int) by omega), if_pos (show (0 : Int) ≤ (i : Int) by omega), if_true, wr_succ (show i ≤ 140737488351232 by omega)]
    exact same_refl d (i + 1) l (by omega) hl
theorem sameInts_refl (l : List Int) (hl : l.length ≤ 140737488351232) : Ev (fun k => lexpriorplain_SameInts.f k l l) true := by
  unfold lexpriorplain_SameInts.f
  simp only [if_true]
  exact same_refl l.length 0 l (by omega) hl
theorem wf4 {l : List Int} (h : l.length ≤ 1000000) : WfRow l := by unfold WfRow; omega
theorem works_ev : Ev (fun k => lexpriorlaw14_works.f k) true := by
  have hw : WfRows [[], [], [], []] := fun r hr => by simp at hr; rw [hr]; exact wf4 (by simp)
  have hw3 : WfRows [[], [], []] := fun r hr => by simp at hr; rw [hr]; exact wf4 (by simp)
  have e1 := plus_ev (a0 := 4) (rs := [⟨1, 1, [0]⟩, ⟨1, 2, [1]⟩, ⟨1, 3, [3]⟩]) hw hw3 (l := [0]) (wf4 (by simp)) (r := ([0, 1, 2], 0)) (by kernel_rfl)
  have e2 := minus_ev (a0 := 4) (rs := [⟨1, 1, [0]⟩, ⟨1, 2, [1]⟩, ⟨1, 3, [3]⟩]) hw hw3 (l := []) (wf4 (by simp)) (r := ([0, 1, 2], 0)) (by kernel_rfl)
  have e3 := loop_ev (a0 := 4) (rs := [⟨1, 1, [0]⟩, ⟨1, 2, [1]⟩, ⟨1, 3, [3]⟩]) hw hw3 (l := []) (wf4 (by simp)) (lit := 3) (r := ([3, 3], 0)) (by kernel_rfl)
  have e4 := sameInts_refl [0, 1, 2] (by simp)
  have e5 := sameInts_refl [3, 3] (by simp)
  obtain ⟨k1, e1⟩ := e1
  obtain ⟨k2, e2⟩ := e2
  obtain ⟨k3, e3⟩ := e3
  obtain ⟨k4, e4⟩ := e4
  obtain ⟨k5, e5⟩ := e5
  refine ⟨k1 + k2 + k3 + k4 + k5, fun k hk => ?_⟩
  show lexpriorlaw14_works.f k = some true
  unfold lexpriorlaw14_works.f
  rw [if_pos ⟨⟨e1 k (by omega), e2 k (by omega), e3 k (by omega)⟩, e4 k (by omega), e5 k (by omega)⟩]
end Go.Proofs.Ythlmpioijjnmnaa.P
