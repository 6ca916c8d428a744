/- Several operations of a region, each of which lays one block, in whatever order. -/
import Derived.Test.YthlmpioijjnmnaaSlvA
namespace Go.Proofs.Ythlmpioijjnmnaa.P
open Go.RowKit Go.Proofs.YthlmpioijjnmnaaW.PrintWords Go.Proofs.YthlmpioijjnmnaaW.PrintLast Go.Proofs.YthlmpioijjnmnaaW.PrintMore Go.Proofs.Ythlmpioijjnmnaa.K
set_option linter.unusedVariables false
set_option linter.unusedSimpArgs false

/-- An operation that lays a block: its number, where its value goes, its value by the block's number, the block. -/
structure Ak where
  i : Nat
  N : Tmp
  val : Nat → Value
  ob : Obj
def subs : List Nat → List (List Nat)
  | [] => [[]]
  | x :: xs => subs xs ++ (subs xs).map (x :: ·)
theorem filter_subs (p : Nat → Bool) : ∀ l : List Nat, l.filter p ∈ subs l
  | [] => by simp [subs]
  | x :: xs => by
    simp only [subs, List.filter_cons]
    split
    · exact List.mem_append_right _ (List.mem_map.2 ⟨_, filter_subs p xs, rfl⟩)
    · exact List.mem_append_left _ (filter_subs p xs)
def lOf (lend : Array Bool) (T : List Nat) : Array Bool := lend.mapIdx fun j x => if T.contains j then false else x
def fillA (σ : Nat → Nat) (T : List Nat) : List Ak → Act → Act
  | [], a => a
  | k :: M, a => fillA σ T M (if T.contains k.i then a else a.put (some k.N) (k.val (σ k.i)))
theorem put_comm (a : Act) {N N' : Tmp} (h : N ≠ N') (v v' : Value) : (a.put (some N) v).put (some N') v' = (a.put (some N') v').put (some N) v := by
  unfold Act.put
  simp only
  rw [Array.setIfInBounds_comm _ _ h]
theorem fillA_put (σ : Nat → Nat) (T : List Nat) {N : Tmp} (v : Value) : ∀ (M : List Ak) (a : Act), N ∉ M.map Ak.N → (fillA σ T M a).put (some N) v = fillA σ T M (a.put (some N) v)
  | [], a, h => rfl
  | k :: M, a, h => by
    simp only [List.map_cons, List.mem_cons, not_or] at h
    simp only [fillA]
    rw [fillA_put σ T v M _ h.2]
    split
    · rfl
    · rw [put_comm _ (fun e => h.1 e.symm)]
theorem fillA_off (σ : Nat → Nat) (T : List Nat) {x : Nat} : ∀ (M : List Ak) (a : Act), x ∉ M.map Ak.N → (fillA σ T M a).tmps[x]? = a.tmps[x]?
  | [], a, h => rfl
  | k :: M, a, h => by
    simp only [List.map_cons, List.mem_cons, not_or] at h
    simp only [fillA]
    rw [fillA_off σ T M _ h.2]
    split
    · rfl
    · simp only [Act.put]
      rw [Array.getElem?_setIfInBounds_ne (fun e => h.1 e.symm)]
def upd (σ : Nat → Nat) (i b : Nat) : Nat → Nat := fun j => if j = i then b else σ j
theorem fillA_same (σ σ' : Nat → Nat) (T T' : List Nat) : ∀ (M : List Ak) (a : Act), (∀ k, k ∈ M → σ k.i = σ' k.i ∧ T.contains k.i = T'.contains k.i) → fillA σ T M a = fillA σ' T' M a
  | [], a, h => rfl
  | k :: M, a, h => by
    obtain ⟨h1, h2⟩ := h k (List.mem_cons_self ..)
    simp only [fillA]
    rw [h1, h2, fillA_same σ σ' T T' M _ (fun k' hk => h k' (List.mem_cons_of_mem _ hk))]
/-- One more. -/
theorem fillA_step (σ : Nat → Nat) (b : Nat) (T T' : List Nat) (k : Ak) : ∀ (M : List Ak) (a : Act), k ∈ M → (M.map Ak.i).Nodup → (M.map Ak.N).Nodup → T.contains k.i = true → T'.contains k.i = false → (∀ j, j ≠ k.i → T'.contains j = T.contains j) →
    (fillA σ T M a).put (some k.N) (k.val b) = fillA (upd σ k.i b) T' M a
  | [], a, h, _, _, _, _, _ => by cases h
  | q :: M, a, h, hi, hN, h1, h2, h3 => by
    simp only [List.map_cons, List.nodup_cons] at hi hN
    rcases List.mem_cons.1 h with e | h
    · subst e
      simp only [fillA]
      rw [if_pos h1, if_neg (by rw [h2]; decide), fillA_put _ _ _ _ _ hN.1]
      have e1 : upd σ k.i b k.i = b := by simp [upd]
      rw [e1]
      refine fillA_same _ _ _ _ _ _ (fun k' hk' => ?_)
      have hne : k'.i ≠ k.i := fun e => hi.1 (List.mem_map.2 ⟨k', hk', e⟩)
      exact ⟨by simp [upd, hne], (h3 _ hne).symm⟩
    · have hne : q.i ≠ k.i := fun e => hi.1 (List.mem_map.2 ⟨k, h, e.symm⟩)
      simp only [fillA]
      rw [fillA_step σ b T T' k M _ h hi.2 hN.2 h1 h2 h3, h3 _ hne]
      have e1 : upd σ k.i b q.i = σ q.i := by simp [upd, hne]
      rw [e1]
theorem ak_inj : ∀ (M : List Ak), (M.map Ak.i).Nodup → ∀ k k', k ∈ M → k' ∈ M → k'.i = k.i → k' = k
  | [], _, k, k', h, _, _ => by cases h
  | q :: M, hi, k, k', h, h', e => by
    simp only [List.map_cons, List.nodup_cons] at hi
    rcases List.mem_cons.1 h with e1 | h1 <;> rcases List.mem_cons.1 h' with e2 | h2
    · rw [e1, e2]
    · subst e1; exact absurd (List.mem_map.2 ⟨k', h2, e⟩) hi.1
    · subst e2; exact absurd (List.mem_map.2 ⟨k, h1, e.symm⟩) hi.1
    · exact ak_inj M hi.2 k k' h1 h2 e
section
variable {P : Program} {ops : Array Oper} {Q : Exit → Act → World → Prop} {md : Region.Mode} {S : World → Prop} {ds : List Nat}
theorem allReady_of {fuel : Nat} {listed : Array Bool} {a : Act} {w : World} : ∀ (rs : List Nat), (∀ i, i ∈ rs → ∃ o, ops[i]? = some o ∧ i ∉ ds ∧ ∀ K : Act → World → Prop, Shut (∀ a' w', S w' → (S w' → wpAnyLast P md ops Q S ds fuel (listed.setIfInBounds i true) a' w') → K a' w') →
      if Region.wanted o (yielded ops a.tmps) = true then Oper.wp P o a w K Q else K (a.put o.dst undef) w) → AllReadyL P md ops Q S ds fuel listed a w rs
  | [], _ => AllReadyL.nil
  | i :: rs, h => by
    obtain ⟨o, h1, h2, h3⟩ := h i (List.mem_cons_self ..)
    exact AllReadyL.cons h1 h2 (fun K hK => h3 K hK) (allReady_of rs (fun j hj => h j (List.mem_cons_of_mem _ hj)))
theorem lOf_step {lend : Array Bool} {T T' : List Nat} {i : Nat} (hi : lend[i]? = some true) (h1 : T'.contains i = false) (h2 : ∀ j, j ≠ i → T'.contains j = T.contains j) : (lOf lend T).setIfInBounds i true = lOf lend T' := by
  apply Array.ext
  · simp [lOf]
  · intro j hj1 hj2
    have hlt : j < lend.size := by simpa [lOf] using hj2
    by_cases e : j = i
    · subst e
      have hv : lend[j] = true := by rw [Array.getElem?_eq_getElem hlt] at hi; exact Option.some.inj hi
      simp only [lOf, Array.getElem_setIfInBounds_self, Array.getElem_mapIdx, h1, hv]
      rfl
    · rw [Array.getElem_setIfInBounds_ne (by simpa [lOf] using hlt) (fun x => e x.symm)]
      simp only [lOf, Array.getElem_mapIdx, h2 j e]
theorem lOf_get (lend : Array Bool) (L : List Nat) (i : Nat) : (lOf lend L).toList[i]? = lend.toList[i]?.map (fun x => if L.contains i then false else x) := by
  simp only [lOf, Array.toList_mapIdx, List.getElem?_mapIdx]
def manyOk (T : List (List Nat × List Nat)) (M : List Nat) (lend : List Bool) (z : Nat) : Bool := ((List.range T.length).filter M.contains == M) && (List.range T.length).all fun i => match T[i]? with
  | some r => if M.contains i then lend[i]? == some true && r.1.all (fun j => lend[j]? == some true && !M.contains j) else lend[i]? == some true || r.1.any (fun j => !(lend[j]? == some true)) || M.all (fun x => x == z || r.1.contains x)
  | none => false
theorem many_ready {md : Region.Mode} {ops : Array Oper} {T : Bool × List (List Nat × List Nat)} {M : List Nat} {lend : Array Bool} {z : Nat} (hT : rtab md ops = T) (hc : manyOk T.2 M lend.toList z = true) (hnd : M.Nodup) (p : Nat → Bool) (hne : M.filter p ≠ []) (hz : M.filter p ≠ [z]) :
    Region.ready md ops (lOf lend (M.filter p)) = M.filter p := by
  rw [ready_eq, hT]
  unfold manyOk at hc
  simp only [Bool.and_eq_true, beq_iff_eq] at hc
  obtain ⟨hs, hc⟩ := hc
  obtain ⟨x, hx, hxz⟩ : ∃ x, x ∈ M.filter p ∧ x ≠ z := by
    match h : M.filter p, hne, hz with
    | [], h1, _ => exact absurd rfl h1
    | [a], _, h2 => exact ⟨a, List.mem_cons_self .., fun e => h2 (by rw [e])⟩
    | a :: b :: r, _, _ =>
      have : (M.filter p).Nodup := hnd.filter p
      rw [h] at this
      by_cases e : a = z
      · refine ⟨b, by simp, fun e' => ?_⟩
        simp only [List.nodup_cons, List.mem_cons, not_or] at this
        exact this.1.1 (e.trans e'.symm)
      · exact ⟨a, List.mem_cons_self .., e⟩
  conv => rhs; rw [← hs, List.filter_filter]
  unfold readyT
  refine List.filter_congr (fun i hi => ?_)
  have h1 := List.all_eq_true.1 hc i hi
  unfold readyAt
  cases hr : T.2[i]? with
  | none => rw [hr] at h1; cases h1
  | some r =>
    rw [hr] at h1
    try dsimp only at h1 ⊢
    by_cases hM : M.contains i = true
    · rw [if_pos hM] at h1
      simp only [Bool.and_eq_true, beq_iff_eq, List.all_eq_true] at h1
      obtain ⟨h2, h3⟩ := h1
      have e1 : r.1.all (fun j => (lOf lend (M.filter p)).toList.getD j false) = true := List.all_eq_true.2 (fun j hj => by
        obtain ⟨q1, q2⟩ := h3 j hj
        have hj2 : (M.filter p).contains j = false := by
          cases hq : (M.filter p).contains j
          · rfl
          · have := (List.mem_filter.1 (List.contains_iff_mem.1 hq)).1
            rw [List.contains_iff_mem.2 this] at q2; cases q2
        rw [List.getD_eq_getElem?_getD, lOf_get, q1, hj2]; rfl)
      rw [e1, Bool.and_true, hM, Bool.and_true, List.getD_eq_getElem?_getD, lOf_get, h2]
      have e2 : (M.filter p).contains i = p i := by
        rw [Bool.eq_iff_iff, List.contains_iff_mem, List.mem_filter]
        exact ⟨fun h => h.2, fun h => ⟨List.contains_iff_mem.1 hM, h⟩⟩
      simp only [Option.map_some, Option.getD_some, e2]
      cases p i <;> rfl
    · rw [if_neg hM] at h1
      have e2 : (M.filter p).contains i = false := by
        cases hq : (M.filter p).contains i
        · rfl
        · exact absurd (List.contains_iff_mem.2 (List.mem_filter.1 (List.contains_iff_mem.1 hq)).1) hM
      rw [Bool.eq_false_iff.2 hM, Bool.and_false]
      simp only [Bool.or_eq_true, beq_iff_eq] at h1
      rw [Bool.and_eq_false_iff]
      rcases h1 with (h1 | h1) | h1
      · left
        rw [List.getD_eq_getElem?_getD, lOf_get, h1, e2]; rfl
      · right
        obtain ⟨j, hj, hq⟩ := List.any_eq_true.1 h1
        refine Bool.eq_false_iff.2 (fun h => ?_)
        have h2 := List.all_eq_true.1 h j hj
        rw [List.getD_eq_getElem?_getD, lOf_get] at h2
        cases hl : lend.toList[j]? with
        | none => rw [hl] at h2; cases h2
        | some b => rw [hl] at h2 hq; cases b with
          | true => simp at hq
          | false => simp at h2
      · right
        have hj := List.all_eq_true.1 h1 x (List.mem_filter.1 hx).1
        simp only [Bool.or_eq_true, beq_iff_eq] at hj
        refine Bool.eq_false_iff.2 (fun h => ?_)
        have h2 := List.all_eq_true.1 h x (List.contains_iff_mem.1 (hj.resolve_left hxz))
        rw [List.getD_eq_getElem?_getD, lOf_get, List.contains_iff_mem.2 hx] at h2
        cases hl : lend.toList[x]? with
        | none => rw [hl] at h2; cases h2
        | some b => rw [hl] at h2; cases h2
theorem allocs_law {fuel : Nat} {a0 : Act} {w : World} (M : List Ak) (lend : Array Bool) (hi : (M.map Ak.i).Nodup) (hN : (M.map Ak.N).Nodup) (hds : ∀ k, k ∈ M → k.i ∉ ds)
    (hops : ∀ k, k ∈ M → ∃ o, ops[k.i]? = some o ∧ o.dst = some k.N ∧ o.guard = none ∧ ∀ (a' : Act) (w' : World), (∀ x, x ∉ M.map Ak.N → a'.tmps[x]? = a0.tmps[x]?) → (execOp a'.eval o).run P w' = .ok (.value (k.val w'.heap.size)) (w'.alloc k.ob))
    (z : Nat) {T : Bool × List (List Nat × List Nat)} (hT : rtab md ops = T) (hR : manyOk T.2 (M.map Ak.i) lend.toList z = true) (hl : ∀ k, k ∈ M → lend[k.i]? = some true)
    (hendz : ∀ (σ : Nat → Nat) (w' : World), (∀ k, k ∈ M → k.i ≠ z → w'.heap[σ k.i]? = some k.ob ∧ w.heap.size ≤ σ k.i) → (∀ k k', k ∈ M → k' ∈ M → k.i ≠ z → k'.i ≠ z → k.i ≠ k'.i → σ k.i ≠ σ k'.i) → Below w.heap.size w w' → wpAnyLast P md ops Q S ds (fuel + 1) (lOf lend [z]) (fillA σ [z] M a0) w')
    (hS : ∀ w', Below w.heap.size w w' → S w')
    (hend : ∀ (σ : Nat → Nat) (w' : World), (∀ k, k ∈ M → w'.heap[σ k.i]? = some k.ob ∧ w.heap.size ≤ σ k.i) → (∀ k k', k ∈ M → k' ∈ M → k.i ≠ k'.i → σ k.i ≠ σ k'.i) → Below w.heap.size w w' → wpAnyLast P md ops Q S ds fuel lend (fillA σ [] M a0) w') :
    wpAnyLast P md ops Q S ds (M.length + fuel) (lOf lend (M.map Ak.i)) a0 w := by
  have go : ∀ (d : Nat) (p : Nat → Bool) (σ : Nat → Nat) (w' : World), ((M.map Ak.i).filter p).length = d → (∀ k, k ∈ M → p k.i = false → w'.heap[σ k.i]? = some k.ob ∧ w.heap.size ≤ σ k.i) → (∀ k k', k ∈ M → k' ∈ M → k.i ≠ k'.i → p k.i = false → p k'.i = false → σ k.i ≠ σ k'.i) →
      Below w.heap.size w w' → wpAnyLast P md ops Q S ds (d + fuel) (lOf lend ((M.map Ak.i).filter p)) (fillA σ ((M.map Ak.i).filter p) M a0) w' := by
    intro d
    induction d with
    | zero =>
      intro p σ w' hd h1 h2 hb
      have hnil : (M.map Ak.i).filter p = [] := List.length_eq_zero_iff.1 hd
      have hp : ∀ k, k ∈ M → p k.i = false := fun k hk => by
        have := List.filter_eq_nil_iff.1 hnil k.i (List.mem_map.2 ⟨k, hk, rfl⟩)
        simpa using this
      rw [hnil]
      have e : lOf lend [] = lend := by
        apply Array.ext
        · simp [lOf]
        · intro j _ _; simp [lOf]
      rw [e, Nat.zero_add]
      exact hend σ w' (fun k hk => h1 k hk (hp k hk)) (fun k k' hk hk' hne => h2 k k' hk hk' hne (hp k hk) (hp k' hk')) hb
    | succ d ih =>
      intro p σ w' hd h1 h2 hb
      have hne : (M.map Ak.i).filter p ≠ [] := fun e => by rw [e] at hd; cases hd
      by_cases hz : (M.map Ak.i).filter p = [z]
      · have hd0 : d = 0 := by rw [hz] at hd; simpa using hd.symm
        subst hd0
        have hz0 : ∀ k, k ∈ M → k.i ≠ z → p k.i = false := fun k hk hkz => by
          cases hp : p k.i
          · rfl
          · have : k.i ∈ (M.map Ak.i).filter p := List.mem_filter.2 ⟨List.mem_map.2 ⟨k, hk, rfl⟩, hp⟩
            rw [hz] at this
            exact absurd (List.mem_singleton.1 this) hkz
        rw [hz, show 0 + 1 + fuel = fuel + 1 from by omega]
        exact hendz σ w' (fun k hk hkz => h1 k hk (hz0 k hk hkz)) (fun k k' hk hk' hkz hkz' hne' => h2 k k' hk hk' hne' (hz0 k hk hkz) (hz0 k' hk' hkz')) hb
      rw [Nat.succ_add]
      have hRd := many_ready hT hR hi p hne hz
      refine wpAnyLast_ready hRd hne (allReady_of _ (fun i hmem => ?_))
      obtain ⟨hm1, hm2⟩ := List.mem_filter.1 hmem
      obtain ⟨k, hk, rfl⟩ := List.mem_map.1 hm1
      obtain ⟨o, q1, q2, q3, q4⟩ := hops k hk
      refine ⟨o, q1, hds k hk, fun K hK => ?_⟩
      have hcon : ((M.map Ak.i).filter p).contains k.i = true := by simpa using hmem
      have hcon' : ((M.map Ak.i).filter (fun j => p j && decide (j ≠ k.i))).contains k.i = false := by
        cases hc : ((M.map Ak.i).filter (fun j => p j && decide (j ≠ k.i))).contains k.i
        · rfl
        · have := List.mem_filter.1 (List.contains_iff_mem.1 hc); simp at this
      have hoth : ∀ j, j ≠ k.i → ((M.map Ak.i).filter (fun j => p j && decide (j ≠ k.i))).contains j = ((M.map Ak.i).filter p).contains j := fun j hj => by
        rw [Bool.eq_iff_iff, List.contains_iff_mem, List.contains_iff_mem, List.mem_filter, List.mem_filter]; simp [hj]
      refine value_ (w1 := w'.alloc k.ob) (v := k.val w'.heap.size) (by simp [Region.wanted, q3]) rfl (q4 _ _ (fun x hx => fillA_off σ _ M a0 hx)) ?_
      rw [q2]
      refine hK.out _ _ (hS _ (below_alloc hb _)) (fun _ => ?_)
      rw [fillA_step σ w'.heap.size _ ((M.map Ak.i).filter (fun j => p j && decide (j ≠ k.i))) k M a0 hk hi hN hcon hcon' hoth, lOf_step (hl k hk) hcon' hoth]
      refine ih _ _ _ ?_ ?_ ?_ (below_alloc hb _)
      · have hcount : ((M.map Ak.i).filter (fun j => p j && decide (j ≠ k.i))).length + 1 = ((M.map Ak.i).filter p).length := by
          have e : (M.map Ak.i).filter (fun j => p j && decide (j ≠ k.i)) = ((M.map Ak.i).filter p).erase k.i := by
            rw [List.Nodup.erase_eq_filter (hi.filter _), List.filter_filter]
            congr 1; funext j; rw [Bool.eq_iff_iff]; simp [and_comm]
          rw [e, List.length_erase_of_mem hmem]
          have := List.length_pos_of_mem hmem
          omega
        omega
      · intro k' hk' hp'
        by_cases e : k'.i = k.i
        · have ek : k' = k := ak_inj M hi k k' hk hk' e
          subst ek
          simp only [upd, if_true]
          exact ⟨by have := World.alloc_heap_new w' k'.ob; exact this, hb.size⟩
        · simp only [upd, if_neg e]
          have := h1 k' hk' (by simpa [e] using hp')
          exact ⟨blk_alloc this.1 _, this.2⟩
      · intro k1 k2 hk1 hk2 hne hp1 hp2
        by_cases e1 : k1.i = k.i
        · have e2 : k2.i ≠ k.i := fun e => hne (e1.trans e.symm)
          simp only [upd, if_pos e1, if_neg e2]
          have := blk_lt (h1 k2 hk2 (by simpa [e2] using hp2)).1
          omega
        · by_cases e2 : k2.i = k.i
          · simp only [upd, if_neg e1, if_pos e2]
            have := blk_lt (h1 k1 hk1 (by simpa [e1] using hp1)).1
            omega
          · simp only [upd, if_neg e1, if_neg e2]
            exact h2 k1 k2 hk1 hk2 hne (by simpa [e1] using hp1) (by simpa [e2] using hp2)
  have e : (M.map Ak.i).filter (fun _ => true) = M.map Ak.i := List.filter_eq_self.2 (fun _ _ => rfl)
  have := go M.length (fun _ => true) (fun _ => 0) w (by rw [e, List.length_map]) (fun k _ h => by cases h) (fun _ _ _ _ _ h => by cases h) (Below.refl _ _)
  rw [e] at this
  have e2 : ∀ (M' : List Ak) (a : Act), (∀ k, k ∈ M' → k ∈ M) → fillA (fun _ => 0) (M.map Ak.i) M' a = a := by
    intro M'
    induction M' with
    | nil => intro a _; rfl
    | cons k M' ih =>
      intro a h
      simp only [fillA]
      rw [if_pos (by simpa using ⟨k, h k (List.mem_cons_self ..), rfl⟩)]
      exact ih a (fun k' hk => h k' (List.mem_cons_of_mem _ hk))
  rw [e2 M a0 (fun _ h => h)] at this
  exact this
theorem many_ {fuel : Nat} (fuel' : Nat) {l : Array Bool} {a0 : Act} {w : World} (M : List Ak) (lend : Array Bool) (z : Nat) (hl0 : (lOf lend (M.map Ak.i) == l && M.length + fuel' == fuel) = true) (hi : (M.map Ak.i).Nodup) (hN : (M.map Ak.N).Nodup) (hds : ds = [])
    (hl : M.all (fun k => lend[k.i]? == some true) = true) {T : Bool × List (List Nat × List Nat)} (hT : rtab md ops = T) (hR : manyOk T.2 (M.map Ak.i) lend.toList z = true)
    (hops : ∀ k, k ∈ M → ∃ o, ops[k.i]? = some o ∧ o.dst = some k.N ∧ o.guard = none ∧ ∀ (a' : Act) (w' : World), (∀ x, x ∉ M.map Ak.N → a'.tmps[x]? = a0.tmps[x]?) → (execOp a'.eval o).run P w' = .ok (.value (k.val w'.heap.size)) (w'.alloc k.ob))
    (hS : ∀ w', Below w.heap.size w w' → S w')
    (hendz : ∀ (σ : Nat → Nat) (w' : World), (∀ k, k ∈ M → k.i ≠ z → w'.heap[σ k.i]? = some k.ob ∧ w.heap.size ≤ σ k.i) → (∀ k k', k ∈ M → k' ∈ M → k.i ≠ z → k'.i ≠ z → k.i ≠ k'.i → σ k.i ≠ σ k'.i) → Below w.heap.size w w' → wpAnyLast P md ops Q S ds (fuel' + 1) (lOf lend [z]) (fillA σ [z] M a0) w')
    (hend : ∀ (σ : Nat → Nat) (w' : World), (∀ k, k ∈ M → w'.heap[σ k.i]? = some k.ob ∧ w.heap.size ≤ σ k.i) → (∀ k k', k ∈ M → k' ∈ M → k.i ≠ k'.i → σ k.i ≠ σ k'.i) → Below w.heap.size w w' → wpAnyLast P md ops Q S ds fuel' lend (fillA σ [] M a0) w') :
    wpAnyLast P md ops Q S ds fuel l a0 w := by
  simp only [Bool.and_eq_true, beq_iff_eq] at hl0
  obtain ⟨e1, e2⟩ := hl0
  subst e1 e2 hds
  refine allocs_law M lend hi hN (fun _ _ => by simp) hops z hT hR (fun k hk => ?_) hendz hS hend
  simpa using List.all_eq_true.1 hl k hk
theorem exec_make {o : Oper} {t : TypeId} {l c : Operand} (hop : o.op = .makeSlice t l c) {ρ : Operand → Value} {x y : Value} (hl : ρ l = x) (hc : ρ c = y) {v : Value} {w w1 : World} (h : (Instr.makeSlice t x y).run P w = .ok v w1) : (execOp ρ o).run P w = .ok (.value v) w1 := by
  unfold execOp
  simp [hop, hl, hc, h]
theorem eval_at {a a0 : Act} {i : Nat} {v : Value} (h : a.tmps[i]? = a0.tmps[i]?) (h0 : a0.tmps[i]? = some v) : a.eval (.tmp i) = v := by
  show a.tmps.getD i undef = v
  rw [Array.getD_eq_getD_getElem?, h, h0]
  rfl
end
end Go.Proofs.Ythlmpioijjnmnaa.P
