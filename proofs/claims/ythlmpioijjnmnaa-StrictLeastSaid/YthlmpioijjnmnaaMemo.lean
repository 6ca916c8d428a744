/- A range over an iterator whose rounds are counted: what holds behind k rounds may speak of all memory; the iterator itself writes nothing. -/
import Derived.Test.YthlmpioijjnmnaaProg
import Derived.RangeFuncWrites
import Derived.RangeFuncBound
import Derived.RangeFuncCalls
import Derived.RangeFuncLeaves
import Derived.WalkKit
import Derived.Test.YthlmpioijjnmnaaCirc
namespace Go.Proofs.Ythlmpioijjnmnaa.P
open Go.RowKit
set_option linter.unusedVariables false

/-- The iterator calls yield K times, at enc 0, enc 1, .., as long as I holds between the rounds. -/
def SeqI (F : Fence) (n : Nat) (P : Program) (g : Nat) (lb : Array Value) (enc : Nat → Value) (I : Nat → World → Prop) (K : Nat) : Prop :=
  ∀ (l : Nat) (J : Nat → World → Prop) (W : World), (∀ k W, J k W → I k W) →
    (∀ k W, J k W → k < K → YieldAt F (n - 1) P l #[enc k] W fun e W' => e = .returned (.bool true) ∧ J (k + 1) W') →
    J 0 W → CallsIn F n P g (#[.func (.yield l) #[] #[]] ++ lb) W fun e W' => (∃ v, e = .returned v) ∧ J K W'
/-- How a round's body ends: it goes on. -/
def roundOn (B : Nat) (oD oL : Obj) (I : World → Prop) : Exit → Act → World → Prop
  | .normal, _, W' => I W' ∧ W'.heap[B]? = some oD ∧ W'.heap[B + 1]? = some oL
  | _, _, _ => False
section
variable {F : Fence} {n : Nat} {P : Program}
theorem range_law {g : Operand} {p : Tmp} {assign body : Code} {Q : Exit → Act → World → Prop} {a : Act} {w : World}
    (hro : F.round = none) (h1 : 1 ≤ n) {gf : Nat} {lb : Array Value} (hg : a.eval g = .func (.func gf) #[] lb) (hFg : F.fn gf) (eg : ∀ args w, (callFunc gf args).run P w = .ok (.enter gf args) w)
    (enc : Nat → Value) (I : Nat → World → Prop) (K : Nat) (hseq : SeqI F (n - 1) P gf lb enc I K)
    (hput : ∀ k W l o o', I k W → w.heap.size ≤ l → W.heap[l]? = some o → o.isCells = false → o'.isCells = false → I k (W.putObj l o'))
    (h0 : ∀ o o' : Obj, I 0 ((w.alloc o).alloc o')) (a₁ : Nat → Act)
    (hassign : ∀ (l : Nat) (k : Nat) (W : World) (Kq : Act → World → Prop), Kq (a₁ k) W →
      assign.wpIn (F.inRound l) (n - 1 - 1) P (Exit.then Kq (fun _ _ _ => False)) { tmps := a.tmps.setIfInBounds p (enc k), defers := [] } W)
    (hbody : ∀ (k : Nat) (W : World) (oD oL : Obj), I k W → k < K → W.heap[w.heap.size]? = some oD → oD.isCells = false → W.heap[w.heap.size + 1]? = some oL → oL.isCells = false → body.wpIn (F.inRound (w.heap.size + 1)) (n - 1 - 1) P (roundOn w.heap.size oD oL (I (k + 1))) (a₁ k) W)
    (hdone : ∀ (D : Nat) (W : World), w.heap.size ≤ D → I K W → W.heap[D]? = some (.deferred (some [])) → Q .normal { a with defers := { target := .collected D, args := #[] } :: a.defers } W) :
    (Code.rangeFunc g #[p] assign body).wpIn F n P Q a w := by
  refine wpIn_rangeFunc ?_
  intro fn hfn
  rw [hro]
  obtain ⟨rec0, hrec⟩ : ∃ rec0 : LoopState → Option Code → Loop, rec0 = fun st pe => { state := st, pending := pe, fn, tmps := a.tmps, params := #[p], assign, body, defers := w.heap.size } := ⟨_, rfl⟩
  have hL1 : ((w.alloc (.deferred (some []))).alloc (.loop (rec0 .ready none))).heap[w.heap.size + 1]? = some (.loop (rec0 .ready none)) := by
    have := World.alloc_heap_new (w.alloc (.deferred (some []))) (.loop (rec0 .ready none)); rwa [World.size_alloc] at this
  have hK1 : ((w.alloc (.deferred (some []))).alloc (.loop (rec0 .ready none))).heap[w.heap.size]? = some (.deferred (some [])) :=
    (Below.heap_alloc _ _ _ (by simp)).trans (World.alloc_heap_new w _)
  refine ⟨w.heap.size + 1, [{ target := .collected w.heap.size, args := #[] }], (w.alloc (.deferred (some []))).alloc (.loop (rec0 .ready none)), { target := .fn (.func gf) lb, args := #[.func (.yield (w.heap.size + 1)) #[] #[]] }, (w.alloc (.deferred (some []))).alloc (.loop (rec0 .ready none)), gf,
    #[.func (.yield (w.heap.size + 1)) #[] #[]] ++ lb, (w.alloc (.deferred (some []))).alloc (.loop (rec0 .ready none)), ?_, ?_, ?_, ?_, fun _ => h1, ?_⟩
  · rw [hrec]; exact run_enterLoop_outer _ _ _ _ _
  · simp only [resolve, hg]
    simp [go_sem]
  · intro f' hf'; simp [Target.leads] at hf'; subst hf'; exact hFg
  · simp [invoke, go_sem, eg]
  · refine (hseq (w.heap.size + 1) (fun k W => I k W ∧ W.heap[w.heap.size + 1]? = some (.loop (rec0 .ready none)) ∧ W.heap[w.heap.size]? = some (.deferred (some []))) _ (fun k W h => h.1) ?_ ⟨h0 _ _, hL1, hK1⟩).mono ?_
    · rintro k W ⟨hi, hl, hk⟩ hlt
      have hsz : w.heap.size + 1 < W.heap.size := (Array.getElem?_eq_some_iff.1 hl).1
      have hy := run_yield (P := P) (args := #[enc k]) hl (by rw [hrec]; rfl)
      rw [hrec] at hy
      have hz : ((#[p] : Array Tmp).zip #[enc k]).foldl (fun tmps (t, a) => tmps.setIfInBounds t a) a.tmps = a.tmps.setIfInBounds p (enc k) := by simp
      refine ⟨fn, _, assign, body, hy, roundIn_of_wpIn hfn ?_⟩
      have hz' := hassign (w.heap.size + 1) k W (fun a₁ w₁ => ∃ w₂, (Instr.beginRound (w.heap.size + 1)).run P w₁ = .ok () w₂ ∧ body.wpIn (F.inRound (w.heap.size + 1)) (n - 1 - 1) P (roundPost P (w.heap.size + 1) fun e W' => e = .returned (.bool true) ∧ I (k + 1) W' ∧ W'.heap[w.heap.size + 1]? = some (.loop (rec0 .ready none)) ∧ W'.heap[w.heap.size]? = some (.deferred (some []))) a₁ w₂)
      rw [← hz] at hz'
      refine hz' ⟨_, run_beginRound hl (by rw [hrec]), ?_⟩
      have ebz : ({ rec0 .ready none with state := .busy } : Loop) = rec0 .busy none := by rw [hrec]
      rw [ebz]
      have hl2 : (W.putObj (w.heap.size + 1) (.loop (rec0 .busy none))).heap[w.heap.size + 1]? = some (.loop (rec0 .busy none)) := World.putObj_heap_same hsz
      have hk2 : (W.putObj (w.heap.size + 1) (.loop (rec0 .busy none))).heap[w.heap.size]? = some (.deferred (some [])) := (World.putObj_heap_other (by omega)).trans hk
      refine wpIn_mono (hbody k _ _ _ (hput _ _ _ _ _ hi (by omega) hl rfl rfl) hlt hk2 rfl hl2 rfl) ?_
      rintro e a3 W3 hp
      cases e with
      | normal =>
        obtain ⟨hi3, hk3, hl3⟩ := hp
        have hsz3 : w.heap.size + 1 < W3.heap.size := (Array.getElem?_eq_some_iff.1 hl3).1
        have hr := run_endRound (P := P) none hl3
        have erd : ({ rec0 .busy none with state := .ready, pending := none } : Loop) = rec0 .ready none := by rw [hrec]
        simp only [Option.isNone_none, if_true] at hr
        rw [erd] at hr
        exact ⟨_, _, hr, rfl, hput _ _ _ _ _ hi3 (by omega) hl3 rfl rfl, World.putObj_heap_same hsz3, (World.putObj_heap_other (by omega)).trans hk3⟩
      | ret => exact hp.elim
      | exit id => exact hp.elim
      | goto t => exact hp.elim
      | panic ch => exact hp.elim
      | outgrown => exact hp.elim
    · rintro e W2 ⟨⟨v, rfl⟩, hi, hl, hk⟩
      exact ⟨none, _, (by have := run_endLoop (P := P) hl (by rw [hrec]; simp); rw [hrec] at this; exact this), hdone _ _ (Nat.le_refl _) (hput _ _ _ _ _ hi (by omega) hl rfl rfl) ((World.putObj_heap_other (by omega)).trans hk)⟩
/-- The same; the element is put into one more place. -/
theorem range_law1 {g : Operand} {p : Tmp} {assign body : Code} {Q : Exit → Act → World → Prop} {a : Act} {w : World} (p2 : Tmp)
    (hro : F.round = none) (h1 : 1 ≤ n) {gf : Nat} {lb : Array Value} (hg : a.eval g = .func (.func gf) #[] lb) (hFg : F.fn gf) (eg : ∀ args w, (callFunc gf args).run P w = .ok (.enter gf args) w)
    (enc : Nat → Value) (I : Nat → World → Prop) (K : Nat) (hseq : SeqI F (n - 1) P gf lb enc I K)
    (hput : ∀ k W l o o', I k W → w.heap.size ≤ l → W.heap[l]? = some o → o.isCells = false → o'.isCells = false → I k (W.putObj l o'))
    (h0 : ∀ o o' : Obj, I 0 ((w.alloc o).alloc o'))
    (hassign : ∀ (l : Nat) (k : Nat) (W : World) (Kq : Act → World → Prop), Kq { tmps := (a.tmps.setIfInBounds p (enc k)).setIfInBounds p2 (enc k), defers := [] } W →
      assign.wpIn (F.inRound l) (n - 1 - 1) P (Exit.then Kq (fun _ _ _ => False)) { tmps := a.tmps.setIfInBounds p (enc k), defers := [] } W)
    (hbody : ∀ (k : Nat) (W : World) (oD oL : Obj), I k W → k < K → W.heap[w.heap.size]? = some oD → oD.isCells = false → W.heap[w.heap.size + 1]? = some oL → oL.isCells = false → body.wpIn (F.inRound (w.heap.size + 1)) (n - 1 - 1) P (roundOn w.heap.size oD oL (I (k + 1))) { tmps := (a.tmps.setIfInBounds p (enc k)).setIfInBounds p2 (enc k), defers := [] } W)
    (hdone : ∀ (D : Nat) (W : World), w.heap.size ≤ D → I K W → W.heap[D]? = some (.deferred (some [])) → Q .normal { a with defers := { target := .collected D, args := #[] } :: a.defers } W) :
    (Code.rangeFunc g #[p] assign body).wpIn F n P Q a w :=
  range_law hro h1 hg hFg eg enc I K hseq hput h0 (fun k => { tmps := (a.tmps.setIfInBounds p (enc k)).setIfInBounds p2 (enc k), defers := [] }) hassign hbody hdone
end
end Go.Proofs.Ythlmpioijjnmnaa.P
/- Memory of one's own, as lists: blocks that stand alone, and rows of whole numbers that grow; a label tells of each block whose it is. -/
namespace Go.Proofs.Ythlmpioijjnmnaa.P
open Go.RowKit Go.Proofs.YthlmpioijjnmnaaW.PrintWords Go.Proofs.YthlmpioijjnmnaaW.PrintLast Go.Proofs.YthlmpioijjnmnaaW.PrintMore Go.Proofs.Ythlmpioijjnmnaa.K
set_option linter.unusedVariables false
set_option linter.unusedSimpArgs false

structure Mem (w0 W : World) (ℓ : Nat → Nat) (bns : List Nat) (obs : List Obj) (rws : List (Value × List Int)) : Prop where
  fix : ∀ c b o, bns[c]? = some b → obs[c]? = some o → W.heap[b]? = some o ∧ ℓ b = 2 * c ∧ w0.heap.size ≤ b
  row : ∀ c v xs, rws[c]? = some (v, xs) → Kd.R (Kd.int .i64) 3 W w0.heap.size (fun k => ℓ k = 2 * c + 1) v xs
  below : Below w0.heap.size w0 W
section
variable {w0 W W1 : World} {ℓ : Nat → Nat} {bns : List Nat} {obs : List Obj} {rws : List (Value × List Int)}
theorem Mem.ne (h : Mem w0 W ℓ bns obs rws) {c c' b b' : Nat} {o o' : Obj} (h1 : bns[c]? = some b) (h2 : obs[c]? = some o) (h3 : bns[c']? = some b') (h4 : obs[c']? = some o') (hc : c ≠ c') : b ≠ b' := fun e => by
  have q1 := (h.fix c b o h1 h2).2.1
  have q2 := (h.fix c' b' o' h3 h4).2.1
  rw [e] at q1
  omega
theorem Mem.onBelow (h : Mem w0 W ℓ bns obs rws) (hb : Below W.heap.size W W1) : Mem w0 W1 ℓ bns obs rws :=
  ⟨fun c b o h1 h2 => ⟨blk_below (h.fix c b o h1 h2).1 hb, (h.fix c b o h1 h2).2⟩, fun c v xs hr => Kd.R_below (h.row c v xs hr) hb, below_step h.below hb⟩
theorem Mem.alloc (h : Mem w0 W ℓ bns obs rws) (o : Obj) : Mem w0 (W.alloc o) ℓ bns obs rws := h.onBelow (below_alloc (Below.refl _ _) o)
theorem Mem.drew (h : Mem w0 W ℓ bns obs rws) : Mem w0 W.drew ℓ bns obs rws := h.onBelow (below_drew (Below.refl _ _))
theorem Mem.drewN (h : Mem w0 W ℓ bns obs rws) (m : Nat) : Mem w0 (W.drewN m) ℓ bns obs rws := h.onBelow (pw_below_drewN (Below.refl _ _) m)
/-- A store into a block that stands alone. -/
theorem Mem.set (h : Mem w0 W ℓ bns obs rws) (c : Nat) {b : Nat} {cs : Array Value} {t : TypeId} (h1 : bns[c]? = some b) (h2 : obs[c]? = some (.cells cs t (0, 0))) (i : Nat) (u : Value) :
    Mem w0 (W.setCell ⟨b, i, none⟩ u) ℓ bns (obs.set c (.cells (cs.setIfInBounds i u) t (0, 0))) rws := by
  obtain ⟨q1, q2, q3⟩ := h.fix c b _ h1 h2
  refine ⟨fun c' b' o' h3 h4 => ?_, fun c' v xs hr => Kd.R_far (h.row c' v xs hr) (fun k hk => show k ≠ b from fun e => by rw [e] at hk; omega) u, below_set h.below q3⟩
  by_cases e : c' = c
  · subst e
    have hlt : c' < obs.length := (List.getElem?_eq_some_iff.1 h2).1
    rw [List.getElem?_set_self hlt] at h4
    rw [h1] at h3
    obtain rfl := Option.some.inj h3
    obtain rfl := Option.some.inj h4
    exact ⟨blk_set q1 i u, q2, q3⟩
  · rw [List.getElem?_set_ne (fun x => e x.symm)] at h4
    obtain ⟨p1, p2, p3⟩ := h.fix c' b' o' h3 h4
    have hne : b' ≠ b := fun x => by rw [x] at p2; omega
    exact ⟨(Below.heap_setCell W ⟨b, i, none⟩ u b' hne).trans p1, p2, p3⟩
/-- Another label for what is not there yet. -/
def lab (W : World) (ℓ : Nat → Nat) (c : Nat) : Nat → Nat := fun k => if W.heap.size ≤ k then c else ℓ k
theorem lab_old {W : World} {ℓ : Nat → Nat} {c k : Nat} (h : k < W.heap.size) : lab W ℓ c k = ℓ k := by unfold lab; rw [if_neg (by omega)]
theorem lab_new {W : World} {ℓ : Nat → Nat} {c k : Nat} (h : W.heap.size ≤ k) : lab W ℓ c k = c := by unfold lab; rw [if_pos h]
theorem Mem.relab (h : Mem w0 W ℓ bns obs rws) (c : Nat) : Mem w0 W (lab W ℓ c) bns obs rws :=
  ⟨fun c' b o h1 h2 => by
      obtain ⟨q1, q2, q3⟩ := h.fix c' b o h1 h2
      exact ⟨q1, by rw [lab_old (blk_lt q1)]; exact q2, q3⟩,
    fun c' v xs hr => Kd.R_mono (Kd.R_bound (h.row c' v xs hr)) (fun k hk => by rw [lab_old hk.2.2.1]; exact hk.1), h.below⟩
/-- Behind an append to a row: 'ok' of the law is 'its label'. -/
theorem Mem.appended (h : Mem w0 W ℓ bns obs rws) (c : Nat) {v v1 : Value} {xs ys : List Int} (hc : rws[c]? = some (v, xs)) (hR : Kd.R (Kd.int .i64) 3 W1 w0.heap.size (fun k => lab W ℓ (2 * c + 1) k = 2 * c + 1) v1 ys) (hg : W.grownBy W1 v.ownBlock) :
    Mem w0 W1 (lab W ℓ (2 * c + 1)) bns obs (rws.set c (v1, ys)) := by
  have hl := h.relab (2 * c + 1)
  have hv := (hl.row c v xs hc).1
  refine ⟨fun c' b o h1 h2 => ?_, fun c' u zs hr => ?_, h.below.grown hg h.below.size (fun k hk => Kd.R_base (h.row c v xs hc) k hk)⟩
  · obtain ⟨q1, q2, q3⟩ := hl.fix c' b o h1 h2
    exact ⟨blk_grown q1 hg (fun e => by have := hv b e.symm; omega), q2, q3⟩
  · by_cases e : c' = c
    · subst e
      have hlt : c' < rws.length := (List.getElem?_eq_some_iff.1 hc).1
      rw [List.getElem?_set_self hlt] at hr
      cases hr
      exact hR
    · rw [List.getElem?_set_ne (fun x => e x.symm)] at hr
      refine Kd.R_grown (hl.row c' u zs hr) hg (fun k hk e' => ?_)
      have := hv k e'.symm
      omega
/-- What the law of an append asks. -/
theorem Mem.ask (h : Mem w0 W ℓ bns obs rws) (c : Nat) {v : Value} {xs : List Int} (hc : rws[c]? = some (v, xs)) :
    Kd.R (Kd.int .i64) 3 W w0.heap.size (fun k => lab W ℓ (2 * c + 1) k = 2 * c + 1) v xs ∧ (∀ k, W.heap.size ≤ k → lab W ℓ (2 * c + 1) k = 2 * c + 1) := ⟨(h.relab (2 * c + 1)).row c v xs hc, fun k hk => lab_new hk⟩
/-- A row more, that holds nothing. -/
theorem Mem.more (h : Mem w0 W ℓ bns obs rws) : Mem w0 W ℓ bns obs (rws ++ [(.slice none 0 0, [])]) := by
  refine ⟨h.fix, fun c v xs hr => ?_, h.below⟩
  by_cases hlt : c < rws.length
  · rw [List.getElem?_append_left hlt] at hr
    exact h.row c v xs hr
  · rw [List.getElem?_append_right (by omega)] at hr
    have : c - rws.length = 0 := by
      by_cases e : c - rws.length = 0
      · exact e
      · rw [List.getElem?_eq_none (by simp; omega)] at hr; cases hr
    rw [this] at hr
    cases hr
    exact Kd.R_nil _ _ _ _ _
theorem Mem.cell (h : Mem w0 W ℓ bns obs rws) (c : Nat) {b : Nat} {cs : Array Value} {t : TypeId} (h1 : bns[c]? = some b) (h2 : obs[c]? = some (.cells cs t (0, 0))) (i : Nat) : W.cell? ⟨b, i, none⟩ = cs[i]? := blk_cell (h.fix c b _ h1 h2).1 i
theorem Mem.froz (h : Mem w0 W ℓ bns obs rws) (c : Nat) {b : Nat} {cs : Array Value} {t : TypeId} (h1 : bns[c]? = some b) (h2 : obs[c]? = some (.cells cs t (0, 0))) (i : Nat) : W.frozen? ⟨b, i, none⟩ = false := blk_frozen (h.fix c b _ h1 h2).1 i
theorem Mem.lt (h : Mem w0 W ℓ bns obs rws) (c : Nat) {b : Nat} {o : Obj} (h1 : bns[c]? = some b) (h2 : obs[c]? = some o) : b < W.heap.size := blk_lt (h.fix c b o h1 h2).1
/-- An object that is no cells is put anew elsewhere. -/
theorem Mem.put (h : Mem w0 W ℓ bns obs rws) {l : Nat} {o o' : Obj} (hl : w0.heap.size ≤ l) (ho : W.heap[l]? = some o) (hc : o.isCells = false) (hob : ∀ x, x ∈ obs → x.isCells = true) : Mem w0 (W.putObj l o') ℓ bns obs rws := by
  have hlt : l < W.heap.size := (Array.getElem?_eq_some_iff.1 ho).1
  refine ⟨fun c b x h1 h2 => ?_, fun c v xs hr => ?_, ⟨h.below.os, h.below.tape, h.below.output, by simpa using h.below.size, fun i hi => (World.putObj_heap_other (by omega)).trans (h.below.block i hi)⟩⟩
  · obtain ⟨q1, q2, q3⟩ := h.fix c b x h1 h2
    refine ⟨(World.putObj_heap_other (fun e => ?_)).trans q1, q2, q3⟩
    rw [e] at q1
    rw [q1] at ho
    obtain rfl := Option.some.inj ho
    rw [hob x (List.mem_of_getElem? h2)] at hc
    cases hc
  · refine Kd.R_mono (Kd.R_move (Kd.R_mono (Kd.R_bound (h.row c v xs hr)) (ok' := fun k => ℓ k = 2 * c + 1 ∧ k ≠ l) (fun k hk => ⟨hk.1, fun e => ?_⟩)) (fun k hk => World.putObj_heap_other (fun e => hk.2 e))) (fun k hk => hk.1)
    obtain ⟨_, _, _, q, _, cells, hq⟩ := hk
    rw [e, ho] at hq
    obtain rfl := Option.some.inj hq
    cases hc
end
end Go.Proofs.Ythlmpioijjnmnaa.P
