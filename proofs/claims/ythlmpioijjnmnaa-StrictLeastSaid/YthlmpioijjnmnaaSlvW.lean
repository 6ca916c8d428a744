/- The solver of strict rules: the iterator over what is told. -/
import Derived.Test.YthlmpioijjnmnaaSlvD
import Derived.LoopIn
namespace Go.Proofs.Ythlmpioijjnmnaa.P
open Go.RowKit Go.Proofs.YthlmpioijjnmnaaW.PrintWords Go.Proofs.YthlmpioijjnmnaaW.PrintLast Go.Proofs.YthlmpioijjnmnaaW.PrintMore Go.Proofs.Ythlmpioijjnmnaa.K
set_option linter.unusedVariables false
set_option linter.unusedSimpArgs false
attribute [local go_sem] Oper.semAt_some
set_option maxHeartbeats 4000000 in
set_option maxRecDepth 100000 in
theorem work_seq (gw gs : Nat) (σ : Nat → SV) (I : Nat → World → Prop) (K : Nat)
    (hI : ∀ k W, I k W → W.cell? ⟨gw, 0, none⟩ = some (.pointer (some ⟨gs, 0, none⟩)) ∧ ∃ As cs, W.cell? ⟨gs, 13, none⟩ = some (.slice As (σ k).told.length cs) ∧ Kd.C (Kd.int .i64) W As (σ k).told.length (σ k).told)
    (hK : ∀ k, k < K → k < (σ k).told.length) (hE : ¬ K < (σ K).told.length) :
    SeqI Fence.wide 8 Try.prog 43 #[.pointer (some ⟨gw, 0, none⟩)] (fun k => .int .i64 (rd (σ k).told (k : Int))) I K := by
  intro l J W hJ hY h0
  refine callsIn_of_wp_marks Try.func43 rfl trivial ?_
  simp only [Try.ntmps43, List.size_toArray, List.length_cons, List.length_nil, Nat.reduceAdd, Nat.reduceSub, Array.replicate_succ, Array.replicate_zero, List.push_toArray, List.append_toArray, List.nil_append, List.cons_append]
  gi_wp2
  gi_loopw [3] (fun v3 wr => ∃ k : Nat, v3 = .int .i64 k ∧ k ≤ K ∧ J k wr) (fun v3 _ => K - (intOf v3).toNat)
  case atStart => exact ⟨0, rfl, Nat.zero_le _, h0⟩
  case round =>
    obtain ⟨k, rfl, hk, hj⟩ := hrel
    obtain ⟨cw, As, cs, c13, hC⟩ := hI k wr (hJ k wr hj)
    have hmx := Kd.C_max hC
    by_cases hlt : k < K
    · have hlen := hK k hlt
      obtain ⟨fn, tmps, assign, body, hy, hR⟩ := hY k wr hj hlt
      obtain ⟨ad, rfl, hcell⟩ := Kd.at_int hC (k : Int) (by omega) (by omega)
      simp only [Int.toNat_natCast] at hcell
      have t1 : decide ((k : Int) < ((σ k).told.length : Int)) = true := decide_eq_true (by omega)
      gi_wp2
      refine hR.mono ?_
      rintro e W' ⟨rfl, hj'⟩
      clear hcell c13 hC cw t1 hR hy
      gi_wp2
      refine ⟨⟨_, _, _, _, _, _, _, _, _, _, _, _, _, _, _, _, _, _, _, _, ⟨k + 1, by go_num, by omega, hj'⟩, rfl⟩, ?_⟩
      simp [intOf]
      omega
    · obtain rfl : k = K := by omega
      have t1 : decide ((k : Int) < ((σ k).told.length : Int)) = false := decide_eq_false (by omega)
      gi_wp2
      exact ⟨_, results_none rfl _ _ _, ⟨_, rfl⟩, hj⟩
theorem work_any (gs : Nat) (w : World) :
    Calls Try.prog 35 #[.pointer (some ⟨gs, 0, none⟩)] w fun e w' => e = .returned (.func (.func 43) #[] #[.pointer (some ⟨w.heap.size, 0, none⟩)]) ∧ w' = w.alloc (.cells #[.pointer (some ⟨gs, 0, none⟩)] 44 (0, 0)) := by
  go_enter Try.func35, Try.ntmps35
  go_wp2_with fail
  go_ret
  exact ⟨rfl, rfl⟩
end Go.Proofs.Ythlmpioijjnmnaa.P
