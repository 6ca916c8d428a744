/- slices.IndexFunc and slices.ContainsFunc over whole numbers, for whatever function that tells by a plain one. -/
import Derived.Test.YtpcaonkahhbgfaaKnotB
namespace Go.Proofs.Ytpcaonkahhbgfaa.P
open Go.RowKit Go.Proofs.YtpcaonkahhbgfaaW.PrintWords Go.Proofs.YtpcaonkahhbgfaaW.PrintLast Go.Proofs.YtpcaonkahhbgfaaW.PrintMore Go.Proofs.Ytpcaonkahhbgfaa.K
set_option linter.unusedVariables false
set_option linter.unusedSimpArgs false

def idxF (p : Int → Bool) : List Int → Int → Int
  | [], _ => -1
  | x :: xs, i => if p x = true then i else idxF p xs (i + 1)
/-- A function value that tells p of the numbers of a list. -/
def FnP (g : Nat) (lb : Array Value) (p : Int → Bool) (xs : List Int) (w : World) : Prop :=
  (∀ (args : Array Value) (W : World), (callFunc g args).run Try.prog W = .ok (.enter g args) W) ∧
  ∀ (W : World), Below w.heap.size w W → ∀ x, x ∈ xs → Calls Try.prog g (#[.int .i64 x] ++ lb) W fun e W' => e = .returned (.bool (p x)) ∧ Below W.heap.size W W'
theorem dropR {l : List Int} {j : Nat} (h : j < l.length) : l.drop j = rd l j :: l.drop (j + 1) := by
  rw [List.drop_eq_getElem_cons h]
  simp [rd, List.getD_eq_getElem?_getD, List.getElem?_eq_getElem h]
theorem rd_mem {l : List Int} {j : Nat} (h : j < l.length) : rd l (j : Int) ∈ l := by
  have : rd l (j : Int) = l[j] := by simp [rd, List.getD_eq_getElem?_getD, List.getElem?_eq_getElem h]
  rw [this]; exact List.getElem_mem h
set_option maxHeartbeats 1000000 in
theorem indexFunc_any (g : Nat) (lb : Array Value) (p : Int → Bool) (A : Option Addr) (c : Nat) (xs : List Int) (w : World) (hr : Kd.C (Kd.int .i64) w A xs.length xs) (hP : FnP g lb p xs w) :
    Calls Try.prog 35 #[.slice A xs.length c, .func (.func g) #[] lb] w fun e w' => e = .returned (.int .i64 (idxF p xs 0)) ∧ Below w.heap.size w w' := by
  have HR := Aside0.mk hr
  have HP := Aside0.mk hP
  have hmax := Kd.C_max hr
  obtain ⟨r, hrr⟩ : ∃ r, idxF p xs 0 = r := ⟨_, rfl⟩
  have HI := Aside0.mk hrr
  rw [hrr]
  have hcf := hP.1
  clear hr hP hrr
  go_enter Try.func35, Try.ntmps35
  go_wp2_with fail
  go_loopw [8] (fun v8 wr => ∃ j : Nat, v8 = .int .i64 j ∧ j ≤ xs.length ∧ Aside0 (idxF p (xs.drop j) j = r) ∧ Aside0 (Below w.heap.size w wr)) (fun v8 _ => xs.length - (intOf v8).toNat)
  case atStart => exact ⟨0, rfl, Nat.zero_le _, ⟨by simpa using HI.out⟩, ⟨Below.refl _ _⟩⟩
  case round =>
    obtain ⟨j, rfl, hj, HJ, HB⟩ := hrel
    by_cases hlt : j < xs.length
    · obtain ⟨ad, rfl, hcell⟩ := Kd.at_int (Kd.C_below HR.out HB.out) (j : Int) (by omega) (by omega)
      simp only [Int.toNat_natCast] at hcell
      have hq := HJ.out
      rw [dropR hlt] at hq
      simp only [idxF] at hq
      have hx := rd_mem hlt
      have HX := Aside0.mk hx
      clear hx HJ
      generalize rd xs (j : Int) = x at hcell hq HX
      by_cases hp : p x = true
      · rw [if_pos hp] at hq
        have HQ := Aside0.mk hq
        clear hq
        go_wp2_with fail
        refine (HP.out.2 _ HB.out x HX.out).mono ?_
        rintro e w1 ⟨rfl, hb⟩
        rw [hp]
        have HB1 := Aside0.mk (below_step HB.out hb)
        clear hb
        go_wp2_with fail
        go_ret
        exact ⟨by rw [← HQ.out]; rfl, HB1.out⟩
      · rw [if_neg hp] at hq
        have HQ := Aside0.mk hq
        clear hq
        go_wp2_with fail
        refine (HP.out.2 _ HB.out x HX.out).mono ?_
        rintro e w1 ⟨rfl, hb⟩
        rw [Bool.eq_false_iff.2 hp]
        have HB1 := Aside0.mk (below_step HB.out hb)
        clear hb hcell
        go_wp2_with fail
        go_roundw
        case rel => exact ⟨j + 1, by go_num, by omega, ⟨by have := HQ.out; rwa [Int.natCast_succ]⟩, HB1⟩
        case measure => simp [intOf]; omega
    · have hq := HJ.out
      rw [List.drop_of_length_le (by omega)] at hq
      simp only [idxF] at hq
      have HQ := Aside0.mk hq
      clear hq
      go_wp2_with fail
      go_ret
      exact ⟨by rw [HQ.out]; rfl, HB.out⟩
end Go.Proofs.Ytpcaonkahhbgfaa.P
