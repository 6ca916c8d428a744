/- Strict proof: the facts that a first proof rests on, over lists. -/
import Derived.Test.YthlmpioijjnmnaaSlvT
import Derived.Test.YthlmpioijjnmnaaSlvM
namespace Go.Proofs.Ythlmpioijjnmnaa.P
open Go.RowKit Go.Proofs.YthlmpioijjnmnaaW.PrintWords Go.Proofs.YthlmpioijjnmnaaW.PrintLast Go.Proofs.YthlmpioijjnmnaaW.PrintMore Go.Proofs.Ythlmpioijjnmnaa.K
set_option linter.unusedVariables false
set_option linter.unusedSimpArgs false

def leastT (g a0 : Int) (rs : List (Int × Int × List Int)) (fs : List Int) (lit : Int) : Option (List Int × Int) :=
  if g = 0 then if 0 ≤ a0 then if 0 ≤ lit ∧ lit < a0 then (solveT a0 rs fs).bind fun s => if gb s.plus lit = true then (leastV a0.toNat rs.length (bdT rs) s (a0.toNat + 1) ((List.replicate a0.toNat false).set lit.toNat true) [lit] 0).bind fun fin => some (pickF (fun s q => gb fin q && gb s.fact q) s (irange a0.toNat), 0) else some ([], 203) else some ([], 91) else none else some ([], g)
section
variable {β : Type} {f : β → Int × Int × List Int} {w : World} {a0 : Int} {V1 V3 : Value} {A2 : Option Addr} {c2 : Nat} {l : List β} {Af : Option Addr} {cf : Nat} {fs : List Int} (hC : Kd.C (rulK f) w A2 l.length l) (hF : Kd.C (Kd.int .i64) w Af fs.length fs) {g : Int}
  (hG : ∀ W, Below w.heap.size w W → Calls Try.prog 27 #[.agg #[.int .i64 a0, V1, .slice A2 l.length c2, V3], .slice Af fs.length cf] W fun e w' => e = .returned (.int .i64 g) ∧ Below W.heap.size W w') {r : List Int} {x : Int}
include hC hF hG
theorem leastT_any {lit : Int} (h : leastT g a0 (l.map f) fs lit = some (r, x)) : Calls Try.prog 16 #[.agg #[.int .i64 a0, V1, .slice A2 l.length c2, V3], .slice Af fs.length cf, .int .i64 lit] w (ChosenPost w r x) := by
  by_cases hg : g = 0
  · subst hg
    unfold leastT at h
    rw [if_pos rfl] at h
    by_cases h0 : 0 ≤ a0
    · rw [if_pos h0] at h
      obtain ⟨n, rfl⟩ := Int.eq_ofNat_of_zero_le h0
      by_cases hl : 0 ≤ lit ∧ lit < n
      · rw [if_pos hl] at h
        obtain ⟨s, hs, h⟩ := Option.bind_eq_some_iff.1 h
        unfold solveT at hs
        rw [if_pos h0, List.length_map] at hs
        rw [List.length_map] at h
        exact least_good w n l.length V1 V3 A2 c2 Af cf fs _ _ _ lit hl.1 hl.2 ⟨hF, rulesAt_of hC⟩ hG s hs (n + 1) r x h
      · rw [if_neg hl] at h
        cases h
        exact least_bad w V1 V3 Af cf fs _ _ lit 91 (by decide) (fun W hW => one_lit W n l.length V1 V3 A2 c2 Af cf fs lit (by omega) (fun W' hW' => hG W' (below_step hW hW')))
    · rw [if_neg h0] at h; cases h
  · unfold leastT at h
    rw [if_neg hg] at h
    cases h
    exact least_bad w V1 V3 Af cf fs _ _ lit g hg (fun W hW => one_bad W V1 V3 Af cf fs g _ _ lit hg (fun W' hW' => hG W' (below_step hW hW')))
end
end Go.Proofs.Ythlmpioijjnmnaa.P
