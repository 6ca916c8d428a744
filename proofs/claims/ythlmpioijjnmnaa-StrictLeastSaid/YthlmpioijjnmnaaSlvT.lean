/- Strict proof: the contracts over lists. -/
import Derived.Test.YthlmpioijjnmnaaSlvL
namespace Go.Proofs.Ythlmpioijjnmnaa.P
open Go.RowKit Go.Proofs.YthlmpioijjnmnaaW.PrintWords Go.Proofs.YthlmpioijjnmnaaW.PrintLast Go.Proofs.YthlmpioijjnmnaaW.PrintMore Go.Proofs.Ythlmpioijjnmnaa.K
set_option linter.unusedVariables false
set_option linter.unusedSimpArgs false

theorem R_blkB {W : World} {g base : Nat} {l : List Bool} (h : W.heap[g]? = some (.cells (bls l) 4 (0, 0))) (hb : base ≤ g) (hm : l.length ≤ 1000000) {ok : Nat → Prop} (hok : ok g) : Kd.R Kd.bool 4 W base ok (.slice (some ⟨g, 0, none⟩) l.length l.length) l := by
  refine ⟨fun k hk => ?_, l.map Value.bool, ⟨by simp [Kd.bool, Kd.scalar], .inr ⟨g, l.length, bls l, rfl, hb, h, Nat.le_refl _, by unfold maxLen; omega, by simp [bls, bools, Kd.bool, Kd.scalar], by rw [show (bls l).toList = l.map Value.bool from by simp [bls, bools]]; exact List.take_of_length_le (by simp [Kd.bool, Kd.scalar])⟩⟩, ?_⟩
  · have : g = k := by simpa [Value.ownBlock] using hk
    exact this ▸ hok
  · exact Kd.reps_scalar l
def kdT (rs : List (Int × Int × List Int)) (r : Int) : Int := (rs.getD r.toNat (0, 0, [])).1
def hdT (rs : List (Int × Int × List Int)) (r : Int) : Int := (rs.getD r.toNat (0, 0, [])).2.1
def bdT (rs : List (Int × Int × List Int)) (r : Int) : List Int := (rs.getD r.toNat (0, 0, [])).2.2
def rulK {β : Type} (f : β → Int × Int × List Int) : Kd β := Kd.iso (Kd.pair (Kd.int .i64) (Kd.pair (Kd.int .i64) (Kd.slice 3 (Kd.int .i64)))) f
theorem rulesAt_of {β : Type} {f : β → Int × Int × List Int} {w : World} {A2 : Option Addr} {l : List β} (h : Kd.C (rulK f) w A2 l.length l) : RulesAt w A2 l.length (kdT (l.map f)) (hdT (l.map f)) (bdT (l.map f)) := by
  intro r h0 h1
  have hl : r.toNat < l.length := by omega
  obtain ⟨ad, c, e, _, hK, hc0⟩ := Kd.C_get h (l[r.toNat]) r h0 h1
  have hc : ∀ j u, c[j]? = some u → w.cell? (ad.add (r.toNat * 3 + j)) = some u := hc0
  have eg : (l.map f).getD r.toNat (0, 0, []) = f (l.getD r.toNat l[r.toNat]) := by
    rw [List.getD_eq_getElem?_getD, List.getD_eq_getElem?_getD, List.getElem?_map, List.getElem?_eq_getElem hl]; rfl
  unfold kdT hdT bdT
  rw [eg]
  obtain ⟨_, _, rfl, rfl, ⟨_, _, rfl, rfl, ⟨A, c3, rfl, l2, g2⟩⟩⟩ := hK
  exact ⟨ad, A, c3, e, hc 0 _ rfl, by rw [← add_field _ _ 1 (by omega)]; exact hc 1 _ rfl, by rw [← add_field _ _ 2 (by omega)]; exact hc 2 _ rfl, g2⟩
def pPlus (s : SV) (q : Int) : Bool := gb s.plus q
def pMinus (s : SV) (q : Int) : Bool := gb s.minus q
def pNone (s : SV) (q : Int) : Bool := !gb s.plus q && !gb s.minus q
def solveT (a0 : Int) (rs : List (Int × Int × List Int)) (fs : List Int) : Option SV := if 0 ≤ a0 then solveF a0.toNat rs.length (kdT rs) (hdT rs) (bdT rs) fs else none
def pickT (g a0 : Int) (rs : List (Int × Int × List Int)) (fs : List Int) (p : SV → Int → Bool) : Option (List Int × Int) :=
  if g = 0 then (solveT a0 rs fs).bind fun s => some (pickF p s (irange a0.toNat), 0) else some ([], g)
def hgtT (g a0 : Int) (rs : List (Int × Int × List Int)) (fs : List Int) : Option (List Int × Int) :=
  if g = 0 then (solveT a0 rs fs).bind fun s => some (s.hgt, 0) else some ([], g)
def loopT (g a0 : Int) (rs : List (Int × Int × List Int)) (fs : List Int) (lit : Int) : Option (List Int × Int) :=
  if g = 0 then if 0 ≤ a0 then if 0 ≤ lit ∧ lit < a0 then (solveT a0 rs fs).bind fun s => if gb s.plus lit = true ∨ gb s.minus lit = true then some ([], 203) else
    (loopV a0.toNat rs.length (bdT rs) s (a0.toNat + 1) (List.replicate a0.toNat false) lit [lit]).bind fun r => some (r, 0) else some ([], 91) else none else some ([], g)
section
variable {β : Type} {f : β → Int × Int × List Int} {w : World} {a0 : Int} {V1 V3 : Value} {A2 : Option Addr} {c2 : Nat} {l : List β} {Af : Option Addr} {cf : Nat} {fs : List Int} (hC : Kd.C (rulK f) w A2 l.length l) (hF : Kd.C (Kd.int .i64) w Af fs.length fs) {g : Int}
  (hG : ∀ W, Below w.heap.size w W → Calls Try.prog 27 #[.agg #[.int .i64 a0, V1, .slice A2 l.length c2, V3], .slice Af fs.length cf] W fun e w' => e = .returned (.int .i64 g) ∧ Below W.heap.size W w') {r : List Int} {x : Int}
include hC hF hG
theorem chosenT {pf : Nat} {p : SV → Int → Bool} (hp : PickP pf p) (h : pickT g a0 (l.map f) fs p = some (r, x)) :
    ∀ W, Below w.heap.size w W → Calls Try.prog 19 #[.agg #[.int .i64 a0, V1, .slice A2 l.length c2, V3], .slice Af fs.length cf, .func (.func pf) #[] #[]] W (ChosenPost W r x) := by
  intro W hW
  by_cases hg : g = 0
  · subst hg
    unfold pickT at h
    rw [if_pos rfl] at h
    obtain ⟨s, hs, h⟩ := Option.bind_eq_some_iff.1 h
    cases h
    unfold solveT at hs
    by_cases h0 : 0 ≤ a0
    · rw [if_pos h0, List.length_map] at hs
      obtain ⟨n, rfl⟩ := Int.eq_ofNat_of_zero_le h0
      have hI : ThyIn w n l.length A2 (kdT (l.map f)) (hdT (l.map f)) (bdT (l.map f)) Af fs := ⟨hF, rulesAt_of hC⟩
      exact chosen_good W n l.length V1 V3 A2 c2 Af cf fs _ _ _ (hI.below hW) pf p hp (fun W' hW' => hG W' (below_step hW hW')) s hs
    · rw [if_neg h0] at hs; cases hs
  · unfold pickT at h
    rw [if_neg hg] at h
    cases h
    exact chosen_bad W _ V1 _ V3 Af cf fs g hg pf (fun W' hW' => hG W' (below_step hW hW'))
theorem plusT (h : pickT g a0 (l.map f) fs pPlus = some (r, x)) : Calls Try.prog 9 #[.agg #[.int .i64 a0, V1, .slice A2 l.length c2, V3], .slice Af fs.length cf] w (ChosenPost w r x) :=
  plus_of w _ _ _ _ _ r x (chosenT hC hF hG pick_plus h)
theorem minusT (h : pickT g a0 (l.map f) fs pMinus = some (r, x)) : Calls Try.prog 10 #[.agg #[.int .i64 a0, V1, .slice A2 l.length c2, V3], .slice Af fs.length cf] w (ChosenPost w r x) :=
  minus_of w _ _ _ _ _ r x (chosenT hC hF hG pick_minus h)
theorem neitherT (h : pickT g a0 (l.map f) fs pNone = some (r, x)) : Calls Try.prog 12 #[.agg #[.int .i64 a0, V1, .slice A2 l.length c2, V3], .slice Af fs.length cf] w (ChosenPost w r x) :=
  neither_of w _ _ _ _ _ r x (chosenT hC hF hG pick_neither h)
theorem heightsT (h : hgtT g a0 (l.map f) fs = some (r, x)) : Calls Try.prog 15 #[.agg #[.int .i64 a0, V1, .slice A2 l.length c2, V3], .slice Af fs.length cf] w (ChosenPost w r x) := by
  by_cases hg : g = 0
  · subst hg
    unfold hgtT at h
    rw [if_pos rfl] at h
    obtain ⟨s, hs, h⟩ := Option.bind_eq_some_iff.1 h
    cases h
    unfold solveT at hs
    by_cases h0 : 0 ≤ a0
    · rw [if_pos h0, List.length_map] at hs
      obtain ⟨n, rfl⟩ := Int.eq_ofNat_of_zero_le h0
      exact heights_good w n l.length V1 V3 A2 c2 Af cf fs _ _ _ ⟨hF, rulesAt_of hC⟩ hG s hs
    · rw [if_neg h0] at hs; cases hs
  · unfold hgtT at h
    rw [if_neg hg] at h
    cases h
    exact heights_bad w V1 V3 Af cf fs g _ _ hg hG
theorem loopT_any {lit : Int} (h : loopT g a0 (l.map f) fs lit = some (r, x)) : Calls Try.prog 13 #[.agg #[.int .i64 a0, V1, .slice A2 l.length c2, V3], .slice Af fs.length cf, .int .i64 lit] w (ChosenPost w r x) := by
  by_cases hg : g = 0
  · subst hg
    unfold loopT at h
    rw [if_pos rfl] at h
    by_cases h0 : 0 ≤ a0
    · rw [if_pos h0] at h
      obtain ⟨n, rfl⟩ := Int.eq_ofNat_of_zero_le h0
      by_cases hl : 0 ≤ lit ∧ lit < n
      · rw [if_pos hl] at h
        obtain ⟨s, hs, h⟩ := Option.bind_eq_some_iff.1 h
        unfold solveT at hs
        rw [if_pos h0, List.length_map] at hs
        rw [List.length_map] at h
        exact loop_good w n l.length V1 V3 A2 c2 Af cf fs _ _ _ lit hl.1 hl.2 ⟨hF, rulesAt_of hC⟩ hG s hs (n + 1) r x h
      · rw [if_neg hl] at h
        cases h
        exact loop_bad w V1 V3 Af cf fs _ _ lit 91 (by decide) (fun W hW => one_lit W n l.length V1 V3 A2 c2 Af cf fs lit (by omega) (fun W' hW' => hG W' (below_step hW hW')))
    · rw [if_neg h0] at h; cases h
  · unfold loopT at h
    rw [if_neg hg] at h
    cases h
    exact loop_bad w V1 V3 Af cf fs _ _ lit g hg (fun W hW => one_bad W V1 V3 Af cf fs g _ _ lit hg (fun W' hW' => hG W' (below_step hW hW')))
end
end Go.Proofs.Ythlmpioijjnmnaa.P
