/- The operations of a region that draws its order, each of which makes a value out of others' and may lay one block: in whatever order. -/
import Derived.Test.YthlmpioijjnmnaaWTab
import Derived.Test.YthlmpioijjnmnaaMine
namespace Go.Proofs.Ythlmpioijjnmnaa.D
open Go.RowKit Go.Proofs.YthlmpioijjnmnaaW.PrintWords Go.Proofs.YthlmpioijjnmnaaW.PrintLast Go.Proofs.YthlmpioijjnmnaaW.PrintMore
set_option linter.unusedVariables false
set_option linter.unusedSimpArgs false

/-- An operation: its number, where its value goes, the operations whose values it reads, its value (by theirs and the number of a new block), the block that it lays. -/
structure Dn where
  i : Nat
  N : Tmp
  dep : List Nat
  val : (Nat → Value) → Nat → Value
  ob : (Nat → Value) → Option Obj
def lOf (lend : Array Bool) (T : List Nat) : Array Bool := lend.mapIdx fun j x => if T.contains j then false else x
def upd {α : Type} (σ : Nat → α) (i : Nat) (b : α) : Nat → α := fun j => if j = i then b else σ j
def putAll (v : Nat → Value) : List Dn → Act → Act
  | [], a => a
  | k :: M, a => putAll v M (a.put (some k.N) (v k.i))
def laid (w : World) : Option Obj → World
  | some o => w.alloc o
  | none => w
def dagOk (T : List (List Nat × List Nat)) (M : List Dn) (lend : List Bool) : Bool :=
  (M.all fun k => lend[k.i]? == some true && match T[k.i]? with
    | some r => k.dep.all (fun j => reachT T j T.length k.i && decide (j < k.i) && (M.map Dn.i).contains j) && r.1.all (fun j => lend[j]? == some true && decide (j < k.i))
    | none => false) &&
  ((List.range T.length).all fun x => (M.map Dn.i).contains x || lend.getD x true || M.all fun k => reachT T k.i T.length x)
section
variable {P : Program} {ops : Array Oper} {Q : Exit → Act → World → Prop} {md : Region.Mode} {S : World → Prop} {ds : List Nat}
theorem lOf_get (lend : Array Bool) (L : List Nat) (i : Nat) : (lOf lend L).toList[i]? = lend.toList[i]?.map (fun x => if L.contains i then false else x) := by
  simp only [lOf, Array.toList_mapIdx, List.getElem?_mapIdx]
theorem lOf_step {lend : Array Bool} {T T' : List Nat} {i : Nat} (hi : lend[i]? = some true) (h1 : T'.contains i = false) (h2 : ∀ j, j ≠ i → T'.contains j = T.contains j) : (lOf lend T).setIfInBounds i true = lOf lend T' := by
  apply Array.ext
  · simp [lOf]
  · intro j hj1 hj2
    have hlt : j < lend.size := by simpa [lOf] using hj2
    by_cases e : j = i
    · subst e
      have hv : lend[j] = true := by rw [Array.getElem?_eq_getElem hlt] at hi; exact Option.some.inj hi
      simp only [lOf, Array.getElem_setIfInBounds_self, Array.getElem_mapIdx, h1, hv]
      rfl
    · rw [Array.getElem_setIfInBounds_ne (by simpa [lOf] using hlt) (fun x => e x.symm)]
      simp only [lOf, Array.getElem_mapIdx, h2 j e]
theorem ready_of {fuel : Nat} {listed : Array Bool} {a : Act} {w : World} : ∀ (rs : List Nat), (∀ i, i ∈ rs → ∃ o, ops[i]? = some o ∧ i ∉ ds ∧ ∀ K : Act → World → Prop, Shut (∀ a' w', S w' → (S w' → wpAnyLast P md ops Q S ds fuel (listed.setIfInBounds i true) a' w') → K a' w') →
      if Region.wanted o (yielded ops a.tmps) = true then Oper.wp P o a w K Q else K (a.put o.dst undef) w) → AllReadyL P md ops Q S ds fuel listed a w rs
  | [], _ => AllReadyL.nil
  | i :: rs, h => by
    obtain ⟨o, h1, h2, h3⟩ := h i (List.mem_cons_self ..)
    exact AllReadyL.cons h1 h2 (fun K hK => h3 K hK) (ready_of rs (fun j hj => h j (List.mem_cons_of_mem _ hj)))
theorem reach_listed {T : List (List Nat × List Nat)} {L : Nat → Prop} (hc : ∀ j r, T[j]? = some r → L j → ∀ e, e ∈ r.1 → L e) {i : Nat} : ∀ (f d : Nat), reachT T i f d = true → (∀ r, T[d]? = some r → ∀ e, e ∈ r.1 → L e) → L i
  | 0, d, h, _ => by cases h
  | f + 1, d, h, hd => by
    unfold reachT at h
    cases hr : T[d]? with
    | none => rw [hr] at h; cases h
    | some r =>
      rw [hr] at h
      obtain ⟨j, hj, h⟩ := List.any_eq_true.1 h
      rw [Bool.or_eq_true, beq_iff_eq] at h
      have hL := hd r hr j hj
      rcases h with rfl | h
      · exact hL
      · exact reach_listed hc f j h (fun r' hr' => hc j r' hr' hL)
theorem putAll_defers (v : Nat → Value) : ∀ (M : List Dn) (a : Act), (putAll v M a).defers = a.defers
  | [], a => rfl
  | k :: M, a => putAll_defers v M _
theorem putAll_size (v : Nat → Value) : ∀ (M : List Dn) (a : Act), (putAll v M a).tmps.size = a.tmps.size
  | [], a => rfl
  | k :: M, a => (putAll_size v M _).trans (by simp [Act.put])
theorem putAll_off (v : Nat → Value) {x : Nat} : ∀ (M : List Dn) (a : Act), x ∉ M.map Dn.N → (putAll v M a).tmps[x]? = a.tmps[x]?
  | [], a, h => rfl
  | k :: M, a, h => by
    simp only [List.map_cons, List.mem_cons, not_or] at h
    simp only [putAll]
    rw [putAll_off v M _ h.2]
    simp only [Act.put]
    rw [Array.getElem?_setIfInBounds_ne (fun e => h.1 e.symm)]
theorem putAll_at (v : Nat → Value) {q : Dn} : ∀ (M : List Dn) (a : Act), (M.map Dn.N).Nodup → q ∈ M → q.N < a.tmps.size → (putAll v M a).tmps[q.N]? = some (v q.i)
  | [], a, _, h, _ => by cases h
  | k :: M, a, hn, h, hs => by
    simp only [List.map_cons, List.nodup_cons] at hn
    simp only [putAll]
    rcases List.mem_cons.1 h with rfl | h
    · rw [putAll_off v M _ hn.1]
      simp only [Act.put]
      rw [Array.getElem?_setIfInBounds_self_of_lt hs]
    · exact putAll_at v M _ hn.2 h (by simpa [Act.put] using hs)
theorem act_ext {a b : Act} (h1 : a.tmps.size = b.tmps.size) (h2 : ∀ x : Nat, a.tmps[x]? = b.tmps[x]?) (h3 : a.defers = b.defers) : a = b := by
  cases a; cases b
  simp only at h1 h2 h3
  subst h3
  congr 1
  exact Array.ext_getElem? h2
theorem getD_of {a : Act} {N : Nat} {v : Value} (h : a.tmps[N]? = some v) : a.tmps.getD N undef = v := by
  rw [Array.getD_eq_getD_getElem?, h]; rfl
theorem min_of : ∀ (l : List Nat), l ≠ [] → ∃ x, x ∈ l ∧ ∀ y, y ∈ l → x ≤ y
  | [], h => absurd rfl h
  | [a], _ => ⟨a, by simp, fun y hy => by rw [List.mem_singleton.1 hy]; exact Nat.le_refl _⟩
  | a :: b :: l, _ => by
    obtain ⟨x, hx, hm⟩ := min_of (b :: l) (by simp)
    by_cases h : a ≤ x
    · exact ⟨a, by simp, fun y hy => by
        rcases List.mem_cons.1 hy with rfl | hy
        · exact Nat.le_refl _
        · exact Nat.le_trans h (hm y hy)⟩
    · exact ⟨x, List.mem_cons_of_mem _ hx, fun y hy => by
        rcases List.mem_cons.1 hy with rfl | hy
        · omega
        · exact hm y hy⟩
theorem dn_inj : ∀ (M : List Dn), (M.map Dn.i).Nodup → ∀ k k', k ∈ M → k' ∈ M → k'.i = k.i → k' = k
  | [], _, k, k', h, _, _ => by cases h
  | q :: M, hi, k, k', h, h', e => by
    simp only [List.map_cons, List.nodup_cons] at hi
    rcases List.mem_cons.1 h with e1 | h1 <;> rcases List.mem_cons.1 h' with e2 | h2
    · rw [e1, e2]
    · subst e1; exact absurd (List.mem_map.2 ⟨k', h2, e⟩) hi.1
    · subst e2; exact absurd (List.mem_map.2 ⟨k, h1, e.symm⟩) hi.1
    · exact dn_inj M hi.2 k k' h1 h2 e
theorem dag_law {fuel : Nat} {a0 : Act} {w : World} (M : List Dn) (lend : Array Bool) (hi : (M.map Dn.i).Nodup) (hN : (M.map Dn.N).Nodup) (hds : ∀ k, k ∈ M → k.i ∉ ds) (hsz : ∀ k, k ∈ M → k.N < a0.tmps.size)
    {T : Bool × List (List Nat × List Nat)} (hT : rtab md ops = T) (hR : dagOk T.2 M lend.toList = true) (hcl : closedT T.2 (lOf lend (M.map Dn.i)).toList = true)
    (hops : ∀ k, k ∈ M → ∃ o, ops[k.i]? = some o ∧ o.dst = some k.N ∧ o.guard = none ∧ ∀ (a' : Act) (w' : World) (v : Nat → Value) (σ : Nat → Nat), Below w.heap.size w w' → (∀ q, q ∈ M → k.dep.contains q.i = true → a'.tmps[q.N]? = some (v q.i) ∧ v q.i = q.val v (σ q.i)) → (∀ x, x ∉ M.map Dn.N → a'.tmps[x]? = a0.tmps[x]?) → (execOp a'.eval o).run P w' = .ok (.value (k.val v w'.heap.size)) (laid w' (k.ob v)))
    (hloc : ∀ k, k ∈ M → ∀ v v' : Nat → Value, (∀ j, k.dep.contains j = true → v j = v' j) → (∀ b, k.val v b = k.val v' b) ∧ k.ob v = k.ob v')
    (hS : ∀ w', Below w.heap.size w w' → S w')
    (hend : ∀ (v : Nat → Value) (σ : Nat → Nat) (w' : World), (∀ k, k ∈ M → v k.i = k.val v (σ k.i) ∧ ∀ o, k.ob v = some o → w'.heap[σ k.i]? = some o ∧ w.heap.size ≤ σ k.i) → (∀ k k', k ∈ M → k' ∈ M → k.i ≠ k'.i → (k.ob v).isSome = true → (k'.ob v).isSome = true → σ k.i ≠ σ k'.i) → Below w.heap.size w w' → wpAnyLast P md ops Q S ds fuel lend (putAll v M a0) w') :
    wpAnyLast P md ops Q S ds (M.length + fuel) (lOf lend (M.map Dn.i)) a0 w := by
  unfold dagOk at hR
  rw [Bool.and_eq_true] at hR
  obtain ⟨hR1, hR2⟩ := hR
  have tab : ∀ k, k ∈ M → lend.toList[k.i]? = some true ∧ ∃ r, T.2[k.i]? = some r ∧ (∀ j, k.dep.contains j = true → (reachT T.2 j T.2.length k.i = true ∧ j < k.i) ∧ j ∈ M.map Dn.i) ∧ ∀ j, j ∈ r.1 → lend.toList[j]? = some true ∧ j < k.i := by
    intro k hk
    have h := List.all_eq_true.1 hR1 k hk
    rw [Bool.and_eq_true, beq_iff_eq] at h
    obtain ⟨h1, h2⟩ := h
    refine ⟨h1, ?_⟩
    cases hr : T.2[k.i]? with
    | none => rw [hr] at h2; cases h2
    | some r =>
      rw [hr] at h2
      simp only [Bool.and_eq_true, List.all_eq_true, beq_iff_eq, decide_eq_true_eq] at h2
      exact ⟨r, rfl, fun j hj => by
        obtain ⟨q1, q2⟩ := h2.1 j (List.contains_iff_mem.1 hj)
        exact ⟨q1, List.contains_iff_mem.1 q2⟩, h2.2⟩
  have go : ∀ (d : Nat) (p : Nat → Bool) (v : Nat → Value) (σ : Nat → Nat) (a : Act) (w' : World), ((M.map Dn.i).filter p).length = d → a.defers = a0.defers → a.tmps.size = a0.tmps.size → (∀ x, x ∉ M.map Dn.N → a.tmps[x]? = a0.tmps[x]?) → (∀ k, k ∈ M → p k.i = false → a.tmps[k.N]? = some (v k.i)) →
      (∀ k, k ∈ M → p k.i = false → v k.i = k.val v (σ k.i) ∧ ∀ o, k.ob v = some o → w'.heap[σ k.i]? = some o ∧ w.heap.size ≤ σ k.i) → (∀ k k', k ∈ M → k' ∈ M → p k.i = false → p k'.i = false → k.i ≠ k'.i → (k.ob v).isSome = true → (k'.ob v).isSome = true → σ k.i ≠ σ k'.i) →
      (∀ (j : Nat) (r : List Nat × List Nat), T.2[j]? = some r → (lOf lend ((M.map Dn.i).filter p)).toList[j]? = some true → ∀ e, e ∈ r.1 → (lOf lend ((M.map Dn.i).filter p)).toList[e]? = some true) →
      Below w.heap.size w w' → wpAnyLast P md ops Q S ds (d + fuel) (lOf lend ((M.map Dn.i).filter p)) a w' := by
    intro d
    induction d with
    | zero =>
      intro p v σ a w' hd h1 h2 h3 h4 h5 h6 h7 hb
      have hnil : (M.map Dn.i).filter p = [] := List.length_eq_zero_iff.1 hd
      have hp : ∀ k, k ∈ M → p k.i = false := fun k hk => by
        have := List.filter_eq_nil_iff.1 hnil k.i (List.mem_map.2 ⟨k, hk, rfl⟩)
        simpa using this
      rw [hnil]
      have e : lOf lend [] = lend := by
        apply Array.ext
        · simp [lOf]
        · intro j _ _; simp [lOf]
      have ea : a = putAll v M a0 := act_ext (h2.trans (putAll_size v M a0).symm) (fun x => by
        by_cases hx : x ∈ M.map Dn.N
        · obtain ⟨k, hk, rfl⟩ := List.mem_map.1 hx
          rw [h4 k hk (hp k hk), putAll_at v M a0 hN hk (hsz k hk)]
        · rw [h3 x hx, putAll_off v M a0 hx]) (h1.trans (putAll_defers v M a0).symm)
      rw [e, Nat.zero_add, ea]
      exact hend v σ w' (fun k hk => h5 k hk (hp k hk)) (fun k k' hk hk' hne => h6 k k' hk hk' (hp k hk) (hp k' hk') hne) hb
    | succ d ih =>
      intro p v σ a w' hd h1 h2 h3 h4 h5 h6 h7 hb
      have hne : (M.map Dn.i).filter p ≠ [] := fun e => by rw [e] at hd; cases hd
      rw [Nat.succ_add]
      have hl : ∀ k, k ∈ M → p k.i = false → (lOf lend ((M.map Dn.i).filter p)).toList[k.i]? = some true := fun k hk hp => by
        rw [lOf_get, (tab k hk).1]
        have : ((M.map Dn.i).filter p).contains k.i = false := by
          cases hc : ((M.map Dn.i).filter p).contains k.i
          · rfl
          · have := (List.mem_filter.1 (List.contains_iff_mem.1 hc)).2; rw [hp] at this; cases this
        rw [Option.map_some, this]; rfl
      have hRd : ∀ i, i ∈ Region.ready md ops (lOf lend ((M.map Dn.i).filter p)) → ∃ k, k ∈ M ∧ k.i = i ∧ p i = true ∧ ∀ (r : List Nat × List Nat), T.2[i]? = some r → ∀ e, e ∈ r.1 → (lOf lend ((M.map Dn.i).filter p)).toList[e]? = some true := by
        intro i hmem
        rw [ready_eq, hT] at hmem
        obtain ⟨m1, m2⟩ := List.mem_filter.1 hmem
        unfold readyAt at m2
        rw [Bool.and_eq_true] at m2
        obtain ⟨m2, m3⟩ := m2
        have hne' : ∀ (r : List Nat × List Nat), T.2[i]? = some r → ∀ e, e ∈ r.1 → (lOf lend ((M.map Dn.i).filter p)).toList[e]? = some true := fun r hr e he => by
          rw [hr] at m3
          have := List.all_eq_true.1 m3 e he
          rw [List.getD_eq_getElem?_getD] at this
          cases hq : (lOf lend ((M.map Dn.i).filter p)).toList[e]? with
          | none => rw [hq] at this; cases this
          | some b => rw [hq] at this; simp at this; rw [this]
        have hun : (lOf lend ((M.map Dn.i).filter p)).toList.getD i true = false := by simpa using m2
        by_cases hM : i ∈ M.map Dn.i
        · obtain ⟨k, hk, rfl⟩ := List.mem_map.1 hM
          refine ⟨k, hk, rfl, ?_, hne'⟩
          cases hp : p k.i
          · rw [List.getD_eq_getElem?_getD, hl k hk hp] at hun; cases hun
          · rfl
        · exfalso
          have h := List.all_eq_true.1 hR2 i m1
          simp only [Bool.or_eq_true] at h
          rcases h with (h | h) | h
          · exact hM (List.contains_iff_mem.1 h)
          · have hc : ((M.map Dn.i).filter p).contains i = false := by
              cases hc : ((M.map Dn.i).filter p).contains i
              · rfl
              · exact absurd (List.mem_filter.1 (List.contains_iff_mem.1 hc)).1 hM
            rw [List.getD_eq_getElem?_getD, lOf_get, hc] at hun
            rw [List.getD_eq_getElem?_getD] at h
            cases hq : lend.toList[i]? with
            | none => rw [hq] at hun; cases hun
            | some b => rw [hq] at hun h; simp at hun h; rw [h] at hun; cases hun
          · refine hne (List.filter_eq_nil_iff.2 (fun x hx => ?_))
            obtain ⟨k, hk, rfl⟩ := List.mem_map.1 hx
            have := reach_listed (L := fun e => (lOf lend ((M.map Dn.i).filter p)).toList[e]? = some true) h7 _ _ (List.all_eq_true.1 h k hk) hne'
            intro hp
            have hc : ((M.map Dn.i).filter p).contains k.i = true := List.contains_iff_mem.2 (List.mem_filter.2 ⟨hx, hp⟩)
            rw [lOf_get, hc] at this
            cases hq : lend.toList[k.i]? with
            | none => rw [hq] at this; cases this
            | some b => rw [hq] at this; simp at this
      have hRn : Region.ready md ops (lOf lend ((M.map Dn.i).filter p)) ≠ [] := by
        obtain ⟨x, hx, hm⟩ := min_of _ hne
        obtain ⟨hx1, hx2⟩ := List.mem_filter.1 hx
        obtain ⟨k, hk, rfl⟩ := List.mem_map.1 hx1
        obtain ⟨t1, r, t2, _, t3⟩ := tab k hk
        have : k.i ∈ Region.ready md ops (lOf lend ((M.map Dn.i).filter p)) := by
          rw [ready_eq, hT]
          refine List.mem_filter.2 ⟨List.mem_range.2 (List.getElem?_eq_some_iff.1 t2).1, ?_⟩
          unfold readyAt
          rw [t2, Bool.and_eq_true]
          constructor
          · rw [List.getD_eq_getElem?_getD, lOf_get, t1, List.contains_iff_mem.2 hx]; rfl
          · refine List.all_eq_true.2 (fun e he => ?_)
            obtain ⟨q1, q2⟩ := t3 e he
            have hc : ((M.map Dn.i).filter p).contains e = false := by
              cases hc : ((M.map Dn.i).filter p).contains e
              · rfl
              · have := hm e (List.contains_iff_mem.1 hc); omega
            rw [List.getD_eq_getElem?_getD, lOf_get, q1, hc]; rfl
        intro e
        rw [e] at this; cases this
      refine wpAnyLast_ready rfl hRn (ready_of _ (fun i hmem => ?_))
      obtain ⟨k, hk, rfl, hpk, hnd⟩ := hRd i hmem
      obtain ⟨o, q1, q2, q3, q4⟩ := hops k hk
      obtain ⟨t1, r, t2, t4, t3⟩ := tab k hk
      refine ⟨o, q1, hds k hk, fun K hK => ?_⟩
      have hmemR : k.i ∈ (M.map Dn.i).filter p := List.mem_filter.2 ⟨List.mem_map.2 ⟨k, hk, rfl⟩, hpk⟩
      have hcon' : ((M.map Dn.i).filter (fun j => p j && decide (j ≠ k.i))).contains k.i = false := by
        cases hc : ((M.map Dn.i).filter (fun j => p j && decide (j ≠ k.i))).contains k.i
        · rfl
        · have := List.mem_filter.1 (List.contains_iff_mem.1 hc); simp at this
      have hoth : ∀ j, j ≠ k.i → ((M.map Dn.i).filter (fun j => p j && decide (j ≠ k.i))).contains j = ((M.map Dn.i).filter p).contains j := fun j hj => by
        rw [Bool.eq_iff_iff, List.contains_iff_mem, List.contains_iff_mem, List.mem_filter, List.mem_filter]; simp [hj]
      have hdone : ∀ q, q ∈ M → k.dep.contains q.i = true → p q.i = false := fun q hq hd' => by
        have := reach_listed (L := fun e => (lOf lend ((M.map Dn.i).filter p)).toList[e]? = some true) h7 _ _ (t4 q.i hd').1.1 hnd
        rw [lOf_get] at this
        cases hp : p q.i
        · rfl
        · have hc : ((M.map Dn.i).filter p).contains q.i = true := List.contains_iff_mem.2 (List.mem_filter.2 ⟨List.mem_map.2 ⟨q, hq, rfl⟩, hp⟩)
          rw [hc] at this
          cases hx : lend.toList[q.i]? with
          | none => rw [hx] at this; cases this
          | some b => rw [hx] at this; simp at this
      have hself : k.dep.contains k.i = false := by
        cases hc : k.dep.contains k.i
        · rfl
        · have := (t4 _ hc).1.2; omega
      have hlb : Below w.heap.size w (laid w' (k.ob v)) := by
        cases hob : k.ob v with
        | none => exact hb
        | some o' => exact below_alloc hb o'
      have hkeep : ∀ b o', w'.heap[b]? = some o' → (laid w' (k.ob v)).heap[b]? = some o' := fun b o' h => by
        cases hob : k.ob v with
        | none => exact h
        | some o'' => exact blk_alloc h o''
      refine value_ (w1 := laid w' (k.ob v)) (v := k.val v w'.heap.size) (by simp [Region.wanted, q3]) rfl (q4 a w' v σ hb (fun q hq hd' => ⟨h4 q hq (hdone q hq hd'), (h5 q hq (hdone q hq hd')).1⟩) h3) ?_
      rw [q2]
      refine hK.out _ _ (hS _ hlb) (fun _ => ?_)
      have t1' : lend[k.i]? = some true := by rw [← Array.getElem?_toList]; exact t1
      rw [lOf_step t1' hcon' hoth]
      have huk : ∀ q, q ∈ M → p q.i = false → q.i ≠ k.i := fun q _ hq e => by rw [e, hpk] at hq; cases hq
      have hvv : ∀ q, q ∈ M → p q.i = false → (∀ b, q.val (upd v k.i (k.val v w'.heap.size)) b = q.val v b) ∧ q.ob (upd v k.i (k.val v w'.heap.size)) = q.ob v := fun q hq hpq => by
        refine hloc q hq _ _ (fun j hj => ?_)
        obtain ⟨_, r', t2', t4', _⟩ := tab q hq
        have hjl := reach_listed (L := fun e => (lOf lend ((M.map Dn.i).filter p)).toList[e]? = some true) h7 _ _ (t4' j hj).1.1 (fun r'' hr'' => h7 q.i r'' hr'' (hl q hq hpq))
        have : j ≠ k.i := fun e => by
          subst e
          rw [lOf_get, List.contains_iff_mem.2 hmemR, t1] at hjl
          simp at hjl
        simp [upd, this]
      have hvk : (∀ b, k.val (upd v k.i (k.val v w'.heap.size)) b = k.val v b) ∧ k.ob (upd v k.i (k.val v w'.heap.size)) = k.ob v :=
        hloc k hk _ _ (fun j hj => by
          have : j ≠ k.i := fun e => by rw [e, hself] at hj; cases hj
          simp [upd, this])
      have hput : ∀ x : Nat, x ≠ k.N → (a.put (some k.N) (k.val v w'.heap.size)).tmps[x]? = a.tmps[x]? := fun x hx => by
        simp only [Act.put]
        rw [Array.getElem?_setIfInBounds_ne (fun e => hx e.symm)]
      have hpos : ∀ q, q ∈ M → (p q.i && decide (q.i ≠ k.i)) = false → q = k ∨ (p q.i = false ∧ q.i ≠ k.i) := fun q hq h => by
        by_cases e : q.i = k.i
        · exact .inl (dn_inj M hi k q hk hq e)
        · exact .inr ⟨by simpa [e] using h, e⟩
      have hNne : ∀ q, q ∈ M → q.i ≠ k.i → q.N ≠ k.N := fun q hq hne' e => by
        have : ∀ (L : List Dn), (L.map Dn.N).Nodup → q ∈ L → k ∈ L → q = k := by
          intro L
          induction L with
          | nil => intro _ h _; cases h
          | cons x L ihL =>
            intro hn h h'
            simp only [List.map_cons, List.nodup_cons] at hn
            rcases List.mem_cons.1 h with e1 | e1 <;> rcases List.mem_cons.1 h' with e2 | e2
            · rw [e1, e2]
            · subst e1; exact absurd (List.mem_map.2 ⟨k, e2, e.symm⟩) hn.1
            · subst e2; exact absurd (List.mem_map.2 ⟨q, e1, e⟩) hn.1
            · exact ihL hn.2 e1 e2
        exact hne' (by rw [this M hN hq hk])
      refine ih (fun j => p j && decide (j ≠ k.i)) (upd v k.i (k.val v w'.heap.size)) (upd σ k.i w'.heap.size) _ _ ?_ (by exact h1) (by simpa [Act.put] using h2) ?_ ?_ ?_ ?_ ?_ hlb
      · have e : (M.map Dn.i).filter (fun j => p j && decide (j ≠ k.i)) = ((M.map Dn.i).filter p).erase k.i := by
          rw [List.Nodup.erase_eq_filter (hi.filter _), List.filter_filter]
          congr 1; funext j; rw [Bool.eq_iff_iff]; simp [and_comm]
        rw [e, List.length_erase_of_mem hmemR]
        omega
      · intro x hx
        rw [hput x (fun e => hx (e ▸ List.mem_map.2 ⟨k, hk, rfl⟩))]
        exact h3 x hx
      · intro q hq hpq
        rcases hpos q hq hpq with rfl | ⟨g1, g2⟩
        · simp only [Act.put, upd, if_true]
          rw [Array.getElem?_setIfInBounds_self_of_lt (by rw [h2]; exact hsz q hq)]
        · rw [hput _ (hNne q hq g2), h4 q hq g1]
          simp [upd, g2]
      · intro q hq hpq
        rcases hpos q hq hpq with rfl | ⟨g1, g2⟩
        · refine ⟨by rw [hvk.1]; simp [upd], fun o' ho' => ?_⟩
          rw [hvk.2] at ho'
          simp only [upd, if_true]
          exact ⟨by rw [ho']; exact blk_new w' o', hb.size⟩
        · obtain ⟨g3, g4⟩ := h5 q hq g1
          refine ⟨by rw [(hvv q hq g1).1]; simp only [upd, if_neg g2]; exact g3, fun o' ho' => ?_⟩
          rw [(hvv q hq g1).2] at ho'
          obtain ⟨g5, g6⟩ := g4 o' ho'
          simp only [upd, if_neg g2]
          exact ⟨hkeep _ _ g5, g6⟩
      · intro q q' hq hq' hpq hpq' hne' hs hs'
        rcases hpos q hq hpq with rfl | ⟨g1, g2⟩
        · rcases hpos q' hq' hpq' with rfl | ⟨g1', g2'⟩
          · exact absurd rfl hne'
          · rw [(hvv q' hq' g1').2] at hs'
            obtain ⟨o', ho'⟩ := Option.isSome_iff_exists.1 hs'
            have := blk_lt ((h5 q' hq' g1').2 o' ho').1
            simp only [upd, if_true, if_neg g2']
            omega
        · rcases hpos q' hq' hpq' with rfl | ⟨g1', g2'⟩
          · rw [(hvv q hq g1).2] at hs
            obtain ⟨o', ho'⟩ := Option.isSome_iff_exists.1 hs
            have := blk_lt ((h5 q hq g1).2 o' ho').1
            simp only [upd, if_true, if_neg g2]
            omega
          · rw [(hvv q hq g1).2] at hs
            rw [(hvv q' hq' g1').2] at hs'
            simp only [upd, if_neg g2, if_neg g2']
            exact h6 q q' hq hq' g1 g1' hne' hs hs'
      · intro j r' hr' hj e he
        rw [lOf_get] at hj ⊢
        have step : ∀ x, (lOf lend ((M.map Dn.i).filter p)).toList[x]? = some true → Option.map (fun y => if ((M.map Dn.i).filter fun j => p j && decide (j ≠ k.i)).contains x = true then false else y) lend.toList[x]? = some true := fun x hx => by
          rw [lOf_get] at hx
          by_cases ex : x = k.i
          · subst ex; rw [hcon', t1]; rfl
          · rw [hoth x ex]; exact hx
        by_cases ej : j = k.i
        · subst ej
          exact step e (hnd r' hr' e he)
        · refine step e (h7 j r' hr' ?_ e he)
          rw [lOf_get, ← hoth j ej]
          exact hj
  have e : (M.map Dn.i).filter (fun _ => true) = M.map Dn.i := List.filter_eq_self.2 (fun _ _ => rfl)
  have hall := go M.length (fun _ => true) (fun _ => undef) (fun _ => 0) a0 w (by rw [e, List.length_map]) rfl rfl (fun _ _ => rfl) (fun k _ h => by cases h) (fun k _ h => by cases h) (fun _ _ _ _ h => by cases h) (fun j r hr hj x hx => by
    rw [e] at hj ⊢
    have hc := List.all_eq_true.1 hcl j (List.mem_range.2 (List.getElem?_eq_some_iff.1 hr).1)
    rw [List.getD_eq_getElem?_getD, hj, hr] at hc
    simp only [Option.getD_some, Bool.not_true, Bool.false_or] at hc
    have := List.all_eq_true.1 hc x hx
    rw [List.getD_eq_getElem?_getD] at this
    cases hq : (lOf lend (M.map Dn.i)).toList[x]? with
    | none => rw [hq] at this; cases this
    | some b => rw [hq] at this; simp at this; rw [this]) (Below.refl _ _)
  rw [e] at hall
  exact hall
theorem dag_ {fuel : Nat} (fuel' : Nat) {l : Array Bool} {a0 : Act} {w : World} (M : List Dn) (lend : Array Bool) (hl0 : (lOf lend (M.map Dn.i) == l && M.length + fuel' == fuel) = true) (hi : (M.map Dn.i).Nodup) (hN : (M.map Dn.N).Nodup) (hds : M.all (fun k => !ds.contains k.i) = true) (hsz : M.all (fun k => decide (k.N < a0.tmps.size)) = true)
    {T : Bool × List (List Nat × List Nat)} (hT : rtab md ops = T) (hR : dagOk T.2 M lend.toList = true) (hcl : closedT T.2 l.toList = true)
    (hops : ∀ k, k ∈ M → ∃ o, ops[k.i]? = some o ∧ o.dst = some k.N ∧ o.guard = none ∧ ∀ (a' : Act) (w' : World) (v : Nat → Value) (σ : Nat → Nat), Below w.heap.size w w' → (∀ q, q ∈ M → k.dep.contains q.i = true → a'.tmps[q.N]? = some (v q.i) ∧ v q.i = q.val v (σ q.i)) → (∀ x, x ∉ M.map Dn.N → a'.tmps[x]? = a0.tmps[x]?) → (execOp a'.eval o).run P w' = .ok (.value (k.val v w'.heap.size)) (laid w' (k.ob v)))
    (hloc : ∀ k, k ∈ M → ∀ v v' : Nat → Value, (∀ j, k.dep.contains j = true → v j = v' j) → (∀ b, k.val v b = k.val v' b) ∧ k.ob v = k.ob v')
    (hS : ∀ w', Below w.heap.size w w' → S w')
    (hend : ∀ (v : Nat → Value) (σ : Nat → Nat) (w' : World), (∀ k, k ∈ M → v k.i = k.val v (σ k.i) ∧ ∀ o, k.ob v = some o → w'.heap[σ k.i]? = some o ∧ w.heap.size ≤ σ k.i) → (∀ k k', k ∈ M → k' ∈ M → k.i ≠ k'.i → (k.ob v).isSome = true → (k'.ob v).isSome = true → σ k.i ≠ σ k'.i) → Below w.heap.size w w' → wpAnyLast P md ops Q S ds fuel' lend (putAll v M a0) w') :
    wpAnyLast P md ops Q S ds fuel l a0 w := by
  simp only [Bool.and_eq_true, beq_iff_eq] at hl0
  obtain ⟨e1, e2⟩ := hl0
  subst e1 e2
  exact dag_law M lend hi hN (fun k hk h => by have := List.all_eq_true.1 hds k hk; rw [List.contains_iff_mem.2 h] at this; cases this) (fun k hk => of_decide_eq_true (List.all_eq_true.1 hsz k hk)) hT hR hcl hops hloc hS hend
end
theorem reps_cons {α : Type} {R : α → List Value → Prop} {size : Nat} {p : α} {ps : List α} {c cs : List Value} (hp : R p c) (hc : c.length = size) (h : Reps R size ps cs) : Reps R size (p :: ps) (c ++ cs) := by
  refine ⟨by rw [List.length_append, hc, h.1, List.length_cons, Nat.add_mul, Nat.one_mul, Nat.add_comm], fun j q hq => ?_⟩
  cases j with
  | zero =>
    simp only [List.getElem?_cons_zero, Option.some.injEq] at hq
    subst hq
    rw [Nat.zero_mul, List.drop_zero, List.take_left' hc]
    exact hp
  | succ j =>
    rw [List.getElem?_cons_succ] at hq
    have := h.2 j q hq
    rw [Nat.add_mul, Nat.one_mul, show j * size + size = c.length + j * size from by omega, List.drop_append, List.drop_eq_nil_of_le (by omega), List.nil_append]
    have e : c.length + j * size - c.length = j * size := by omega
    rw [e]
    exact this
/-- A block that is read as a row. -/
theorem C_block {α : Type} {d : Kd α} {W : World} {g : Nat} {cs : Array Value} {e : TypeId} {xs : List α} (h : W.heap[g]? = some (.cells cs e (0, 0))) (hr : Reps (d.K W) d.sz xs cs.toList) (hm : xs.length ≤ 1000000) : d.C W (some ⟨g, 0, none⟩) xs.length xs := by
  refine ⟨rfl, by omega, fun _ => ⟨_, rfl, fun j p hj => ⟨_, d.K_len (hr.2 j p hj), hr.2 j p hj, fun i u hu => ?_⟩⟩⟩
  rw [add_plain, blk_cell h]
  have hi : i < ((cs.toList.drop (j * d.sz)).take d.sz).length := (List.getElem?_eq_some_iff.1 hu).1
  rw [List.getElem?_take] at hu
  split at hu
  · rw [List.getElem?_drop] at hu
    simpa using hu
  · cases hu
end Go.Proofs.Ythlmpioijjnmnaa.D
