/- The solver of strict rules: how it is made. -/
import Derived.Test.YthlmpioijjnmnaaSlvA
import Derived.Test.YthlmpioijjnmnaaAllo
namespace Go.Proofs.Ythlmpioijjnmnaa.P
open Go.RowKit Go.Proofs.YthlmpioijjnmnaaW.PrintWords Go.Proofs.YthlmpioijjnmnaaW.PrintLast Go.Proofs.YthlmpioijjnmnaaW.PrintMore Go.Proofs.Ythlmpioijjnmnaa.K
set_option linter.unusedVariables false
set_option linter.unusedSimpArgs false

theorem infoL : (Try.prog.info? 26).map (fun i => (i.zero, i.size, i.bytes)) = some (some (.slice none 0 0), 1, 24) := by kernel_rfl
/-- Memory that has just been made: its blocks are not one another, its rows hold nothing. -/
theorem Mem.made {w0 W : World} {bns : List Nat} {obs : List Obj} {rws : List (Value × List Int)} (hn : bns.Nodup) (hf : ∀ (c b : Nat) (o : Obj), bns[c]? = some b → obs[c]? = some o → W.heap[b]? = some o ∧ w0.heap.size ≤ b) (hr : ∀ (c : Nat) (v : Value) (xs : List Int), rws[c]? = some (v, xs) → v = Value.slice none 0 0 ∧ xs = []) (hb : Below w0.heap.size w0 W) :
    Mem w0 W (fun k => 2 * bns.idxOf k) bns obs rws := by
  refine ⟨fun c b o h1 h2 => ⟨(hf c b o h1 h2).1, ?_, (hf c b o h1 h2).2⟩, fun c v xs h => ?_, hb⟩
  · obtain ⟨hlt, e⟩ := List.getElem?_eq_some_iff.1 h1
    subst e
    show 2 * bns.idxOf bns[c] = 2 * c
    rw [hn.idxOf_getElem c hlt]
  · obtain ⟨rfl, rfl⟩ := hr c v xs h
    exact Kd.R_nil _ _ _ _ _
def zeroV (n m : Nat) : SV := { fact := List.replicate n false, ins := List.replicate n [], rls := List.replicate n [], need := List.replicate m 0, dead := List.replicate m false, left := List.replicate n 0, plus := List.replicate n false, minus := List.replicate n false, hgt := List.replicate n 0, told := [] }
theorem zeroV_len (n m : Nat) : SvL n m (List.replicate n (Value.slice none 0 0)) (List.replicate n (Value.slice none 0 0)) (zeroV n m) := by
  constructor <;> simp [zeroV]
/-- The post without panics. -/
def noPanic (Q : Exit → Act → World → Prop) : Exit → Act → World → Prop
  | .panic _, _, _ => False
  | .normal, a, w => Q .normal a w
  | .ret, a, w => Q .ret a w
  | .exit i, a, w => Q (.exit i) a w
  | .goto t, a, w => Q (.goto t) a w
  | .outgrown, a, w => Q .outgrown a w
theorem noPanic_le {Q : Exit → Act → World → Prop} : ∀ e a w, noPanic Q e a w → Q e a w := by
  intro e a w h
  cases e <;> first | exact h | exact h.elim
theorem zip_rep {α β : Type} (n : Nat) (a : α) (b : β) : (List.replicate n a).zip (List.replicate n b) = List.replicate n (a, b) := by
  rw [List.zip_replicate]; simp
/-- The facts are told. -/
def factsV (n : Int) : List Int → SV → Option SV
  | [], s => some s
  | q :: qs, s => if 0 ≤ q ∧ q < n then (tellV n { s with fact := s.fact.set q.toNat true } q true 1).bind (factsV n qs) else none
/-- A rule's body: where it stands in each literal's row. -/
def insV (n : Int) (r : Int) : List Int → SV → Option SV
  | [], s => some s
  | b :: bs, s => if (0 ≤ b ∧ b < n) ∧ (s.ins.getD b.toNat []).length < 1000000 then insV n r bs { s with ins := s.ins.set b.toNat (s.ins.getD b.toNat [] ++ [r]) } else none
def ruleV (n : Int) (hd : Int → Int) (bd : Int → List Int) (r : Int) (s : SV) : Option SV :=
  if (0 ≤ hd r ∧ hd r < n) ∧ sm (ga s.left (hd r)) ∧ (s.rls.getD (hd r).toNat []).length < 1000000 then
    (insV n r (bd r) { s with need := s.need.set r.toNat (bd r).length, left := s.left.set (hd r).toNat (ga s.left (hd r) + 1), rls := s.rls.set (hd r).toNat (s.rls.getD (hd r).toNat [] ++ [r]) }).bind fun s' =>
      if bd r = [] then tellV n s' (hd r) true 1 else some s'
  else none
def rulesV (n : Int) (kd hd : Int → Int) (bd : Int → List Int) : List Int → SV → Option SV
  | [], s => some s
  | r :: rs, s => if kd r = 1 then (ruleV n hd bd r s).bind (rulesV n kd hd bd rs) else rulesV n kd hd bd rs s
def noneV (n : Int) : List Int → SV → Option SV
  | [], s => some s
  | q :: qs, s => if ga s.left q = 0 then (tellV n s q false 1).bind (noneV n qs) else noneV n qs s
def RulesAt (w0 : World) (A2 : Option Addr) (m : Nat) (kd hd : Int → Int) (bd : Int → List Int) : Prop :=
  ∀ r : Int, 0 ≤ r → r < m → ∃ (ad : Addr) (Ab : Option Addr) (cb : Nat), A2 = some ad ∧ w0.cell? (ad.add (r.toNat * 3)) = some (.int .i64 (kd r)) ∧ w0.cell? ⟨(ad.add (r.toNat * 3)).block, (ad.add (r.toNat * 3)).off + 1, none⟩ = some (.int .i64 (hd r)) ∧
    w0.cell? ⟨(ad.add (r.toNat * 3)).block, (ad.add (r.toNat * 3)).off + 2, none⟩ = some (.slice Ab (bd r).length cb) ∧ Kd.C (Kd.int .i64) w0 Ab (bd r).length (bd r)
def irange (m : Nat) : List Int := (List.range m).map fun (i : Nat) => (i : Int)
theorem irange_drop {m j : Nat} (h : j < m) : (irange m).drop j = (j : Int) :: (irange m).drop (j + 1) := by
  have hl : j < (irange m).length := by simpa [irange] using h
  rw [List.drop_eq_getElem_cons hl]
  simp [irange]
theorem irange_len (m : Nat) : (irange m).length = m := by simp [irange]
theorem bls_rep (n : Nat) (x : Bool) : bls (List.replicate n x) = (List.replicate n (Value.bool x)).toArray := by simp [bls, bools]
theorem ints_rep (n : Nat) (x : Int) : ints (List.replicate n x) = (List.replicate n (Value.int .i64 x)).toArray := by simp [ints, nums]
def sl (n b : Nat) : Value := .slice (some ⟨b, 0, none⟩) n n
/-- What solve makes: by operation and tmp. -/
def slvM (n m : Nat) : List Ak :=
  [⟨2, 19, sl n, .cells (List.replicate n (Value.bool false)).toArray 4 (0, 0)⟩, ⟨4, 21, sl n, .cells (List.replicate n (Value.slice none 0 0)).toArray 26 (0, 0)⟩, ⟨6, 23, sl n, .cells (List.replicate n (Value.slice none 0 0)).toArray 26 (0, 0)⟩,
   ⟨10, 27, sl m, .cells (List.replicate m (Value.int .i64 0)).toArray 3 (0, 0)⟩, ⟨14, 31, sl m, .cells (List.replicate m (Value.bool false)).toArray 4 (0, 0)⟩, ⟨16, 33, sl n, .cells (List.replicate n (Value.int .i64 0)).toArray 3 (0, 0)⟩,
   ⟨18, 35, sl n, .cells (List.replicate n (Value.bool false)).toArray 4 (0, 0)⟩, ⟨20, 37, sl n, .cells (List.replicate n (Value.bool false)).toArray 4 (0, 0)⟩, ⟨22, 39, sl n, .cells (List.replicate n (Value.int .i64 0)).toArray 3 (0, 0)⟩]
def slvX : Ak := ⟨25, 6, fun b => .pointer (some ⟨b, 0, none⟩), .cells #[.pointer none] 44 (0, 0)⟩
theorem slvM_ne {n m : Nat} (k : Ak) (hk : k ∈ slvM n m) : k.i ≠ 25 := by
  simp only [slvM, List.mem_cons, List.not_mem_nil, or_false] at hk
  rcases hk with (rfl | rfl | rfl | rfl | rfl | rfl | rfl | rfl | rfl) <;> simp
theorem blk_new1 (w : World) (o o' : Obj) : ((w.alloc o).alloc o').heap[w.heap.size + 1]? = some o' := by
  have h : (w.alloc o).heap.size = w.heap.size + 1 := Array.size_push ..
  have := blk_new (w.alloc o) o'
  rwa [h] at this
theorem nodup_sig (σ : Nat → Nat) : ∀ (M : List Ak), (M.map Ak.i).Nodup → (∀ k k', k ∈ M → k' ∈ M → k.i ≠ k'.i → σ k.i ≠ σ k'.i) → (M.map (fun k => σ k.i)).Nodup
  | [], _, _ => List.nodup_nil
  | q :: M, h, hd => by
    simp only [List.map_cons, List.nodup_cons] at h ⊢
    refine ⟨fun hm => ?_, nodup_sig σ M h.2 (fun k k' h1 h2 => hd k k' (List.mem_cons_of_mem _ h1) (List.mem_cons_of_mem _ h2))⟩
    obtain ⟨k, hk, e⟩ := List.mem_map.1 hm
    have hne : q.i ≠ k.i := fun x => h.1 (List.mem_map.2 ⟨k, hk, x.symm⟩)
    exact hd q k (List.mem_cons_self ..) (List.mem_cons_of_mem _ hk) hne e.symm
theorem forall_cons {α : Type} {p : α → Prop} {x : α} {l : List α} (h : ∀ k, k ∈ x :: l → p k) : p x ∧ ∀ k, k ∈ l → p k := ⟨h x (List.mem_cons_self ..), fun k hk => h k (List.mem_cons_of_mem _ hk)⟩
theorem slv_made {w0 W0 W : World} (n m : Nat) (v1 v3 : Value) (A2 : Option Addr) (c2 : Nat) (σ : Nat → Nat) (gs gx : Nat) (h9 : ∀ k, k ∈ slvM n m → W0.heap[σ k.i]? = some k.ob ∧ w0.heap.size ≤ σ k.i) (hd : ∀ k k', k ∈ slvM n m → k' ∈ slvM n m → k.i ≠ k'.i → σ k.i ≠ σ k'.i)
    (hb : Below w0.heap.size w0 W0) (hW : Below W0.heap.size W0 W)
    (hgs : W.heap[gs]? = some (.cells #[.int .i64 n, v1, .slice A2 m c2, v3, sl n (σ 2), sl n (σ 4), sl n (σ 6), sl m (σ 10), sl m (σ 14), sl n (σ 16), sl n (σ 18), sl n (σ 20), sl n (σ 22), .slice none 0 0] 46 (0, 0)))
    (hgx : W.heap[gx]? = some (.cells #[.pointer none] 44 (0, 0))) (q1 : w0.heap.size ≤ gs) (q2 : w0.heap.size ≤ gx) (n1 : ∀ k, k ∈ slvM n m → σ k.i ≠ gs) (n2 : ∀ k, k ∈ slvM n m → σ k.i ≠ gx) (n3 : gs ≠ gx) :
    ∃ ℓ, SvS w0 (W.setCell ⟨gx, 0, none⟩ (.pointer (some ⟨gs, 0, none⟩))) ℓ ⟨gs, σ 2, σ 4, σ 6, σ 10, σ 14, σ 16, σ 18, σ 20, σ 22⟩ n m ⟨.int .i64 n, v1, .slice A2 m c2, v3⟩ (.slice none 0 0) (List.replicate n (.slice none 0 0)) (List.replicate n (.slice none 0 0)) (zeroV n m) [gx] [.cells #[.pointer (some ⟨gs, 0, none⟩)] 44 (0, 0)] [] := by
  have hnd := nodup_sig σ (slvM n m) (show [2, 4, 6, 10, 14, 16, 18, 20, 22].Nodup by decide) hd
  have hall : ∀ k, k ∈ slvM n m → W.heap[σ k.i]? = some k.ob ∧ w0.heap.size ≤ σ k.i := fun k hk => ⟨blk_below (h9 k hk).1 hW, (h9 k hk).2⟩
  have hM : Mem w0 W (fun k => 2 * (svBn ⟨gs, σ 2, σ 4, σ 6, σ 10, σ 14, σ 16, σ 18, σ 20, σ 22⟩ [gx]).idxOf k) (svBn ⟨gs, σ 2, σ 4, σ 6, σ 10, σ 14, σ 16, σ 18, σ 20, σ 22⟩ [gx])
      (svOb ⟨gs, σ 2, σ 4, σ 6, σ 10, σ 14, σ 16, σ 18, σ 20, σ 22⟩ n m ⟨.int .i64 n, v1, .slice A2 m c2, v3⟩ (.slice none 0 0) (List.replicate n (.slice none 0 0)) (List.replicate n (.slice none 0 0)) (zeroV n m) [.cells #[.pointer none] 44 (0, 0)])
      (svRw (.slice none 0 0) (List.replicate n (.slice none 0 0)) (List.replicate n (.slice none 0 0)) (zeroV n m) []) := by
    refine Mem.made ?_ ?_ ?_ (below_step hb hW)
    · show (gs :: ((slvM n m).map (fun k => σ k.i) ++ [gx])).Nodup
      rw [List.nodup_cons]
      refine ⟨fun hm => ?_, List.nodup_append.2 ⟨hnd, by simp, fun x hx y hy e => ?_⟩⟩
      · rcases List.mem_append.1 hm with h | h
        · obtain ⟨k, hk, e⟩ := List.mem_map.1 h
          exact n1 k hk e
        · exact n3 (List.mem_singleton.1 h)
      · obtain ⟨k, hk, e'⟩ := List.mem_map.1 hx
        exact n2 k hk (e'.trans (e.trans (List.mem_singleton.1 hy)))
    · obtain ⟨a0, h⟩ := forall_cons hall
      obtain ⟨a1, h⟩ := forall_cons h
      obtain ⟨a2, h⟩ := forall_cons h
      obtain ⟨a3, h⟩ := forall_cons h
      obtain ⟨a4, h⟩ := forall_cons h
      obtain ⟨a5, h⟩ := forall_cons h
      obtain ⟨a6, h⟩ := forall_cons h
      obtain ⟨a7, h⟩ := forall_cons h
      obtain ⟨a8, _⟩ := forall_cons h
      intro c b o h1 h2
      match c, h1, h2 with
      | 0, h1, h2 => cases h1; cases h2; exact ⟨hgs, q1⟩
      | 1, h1, h2 => cases h1; cases h2; exact ⟨by rw [show (zeroV n m).fact = List.replicate n false from rfl, bls_rep]; exact a0.1, a0.2⟩
      | 2, h1, h2 => cases h1; cases h2; exact a1
      | 3, h1, h2 => cases h1; cases h2; exact a2
      | 4, h1, h2 => cases h1; cases h2; exact ⟨by rw [show (zeroV n m).need = List.replicate m 0 from rfl, ints_rep]; exact a3.1, a3.2⟩
      | 5, h1, h2 => cases h1; cases h2; exact ⟨by rw [show (zeroV n m).dead = List.replicate m false from rfl, bls_rep]; exact a4.1, a4.2⟩
      | 6, h1, h2 => cases h1; cases h2; exact ⟨by rw [show (zeroV n m).left = List.replicate n 0 from rfl, ints_rep]; exact a5.1, a5.2⟩
      | 7, h1, h2 => cases h1; cases h2; exact ⟨by rw [show (zeroV n m).plus = List.replicate n false from rfl, bls_rep]; exact a6.1, a6.2⟩
      | 8, h1, h2 => cases h1; cases h2; exact ⟨by rw [show (zeroV n m).minus = List.replicate n false from rfl, bls_rep]; exact a7.1, a7.2⟩
      | 9, h1, h2 => cases h1; cases h2; exact ⟨by rw [show (zeroV n m).hgt = List.replicate n 0 from rfl, ints_rep]; exact a8.1, a8.2⟩
      | 10, h1, h2 => cases h1; cases h2; exact ⟨hgx, q2⟩
      | k + 11, h1, h2 => cases h1
    · intro c v xs h
      have hm := List.mem_of_getElem? h
      simp only [svRw, zeroV, zip_rep, List.append_nil, List.mem_cons, List.mem_append, List.mem_replicate, Prod.mk.injEq] at hm
      rcases hm with h | h | h
      · exact h
      · exact h.2
      · exact h.2
  have := hM.set 10 (b := gx) rfl rfl 0 (.pointer (some ⟨gs, 0, none⟩))
  exact ⟨_, this, zeroV_len n m⟩
theorem zip_set {α β : Type} : ∀ (l : List α) (l' : List β) (i : Nat) (x : α) (y : β), (l.zip l').set i (x, y) = (l.set i x).zip (l'.set i y)
  | [], l', i, x, y => by simp
  | a :: l, [], i, x, y => by cases i <;> simp
  | a :: l, b :: l', 0, x, y => by simp
  | a :: l, b :: l', i + 1, x, y => by simp [zip_set l l' i x y]
section
variable {w0 W W1 : World} {ℓ : Nat → Nat} {B : SvB} {n m : Nat} {T : TV} {vt : Value} {vi vr : List Value} {s : SV} {bx : List Nat} {ox : List Obj} {rx : List (Value × List Int)} {q : Int}
theorem SvS.lsRow (h : SvS w0 W ℓ B n m T vt vi vr s bx ox rx) (h0 : 0 ≤ q) (h1 : q < n) :
    W.cell? ⟨B.br, q.toNat, none⟩ = some (vr.getD q.toNat undef) ∧ (svRw vt vi vr s rx)[1 + n + q.toNat]? = some (vr.getD q.toNat undef, s.rls.getD q.toNat []) := by
  have hl1 : q.toNat < vr.length := by rw [h.L.vr]; omega
  have hl2 : q.toNat < s.rls.length := by rw [h.L.rls]; omega
  have e1 : vr.getD q.toNat undef = vr[q.toNat] := by simp [List.getD_eq_getElem?_getD, List.getElem?_eq_getElem hl1]
  have e2 : s.rls.getD q.toNat [] = s.rls[q.toNat] := by simp [List.getD_eq_getElem?_getD, List.getElem?_eq_getElem hl2]
  have hz : (vi.zip s.ins).length = n := by rw [List.length_zip, h.L.vi, h.L.ins, Nat.min_self]
  rw [e1, e2]
  refine ⟨(h.M.cell 3 rfl rfl q.toNat).trans (by simp [hl1]), ?_⟩
  unfold svRw
  rw [show 1 + n + q.toNat = (n + q.toNat) + 1 from by omega, List.getElem?_cons_succ, List.getElem?_append_right (by omega), hz, Nat.add_sub_cancel_left, List.getElem?_append_left (by simp; omega), List.getElem?_eq_getElem (by simp; omega), List.getElem_zip]
theorem SvS.inRw (h : SvS w0 W ℓ B n m T vt vi vr s bx ox rx) (h0 : 0 ≤ q) (h1 : q < n) :
    (svRw vt vi vr s rx)[1 + q.toNat]? = some (vi.getD q.toNat undef, s.ins.getD q.toNat []) := by
  have hl1 : q.toNat < vi.length := by rw [h.L.vi]; omega
  have hl2 : q.toNat < s.ins.length := by rw [h.L.ins]; omega
  have e1 : vi.getD q.toNat undef = vi[q.toNat] := by simp [List.getD_eq_getElem?_getD, List.getElem?_eq_getElem hl1]
  have e2 : s.ins.getD q.toNat [] = s.ins[q.toNat] := by simp [List.getD_eq_getElem?_getD, List.getElem?_eq_getElem hl2]
  rw [e1, e2]
  unfold svRw
  rw [Nat.add_comm, List.getElem?_cons_succ, List.getElem?_append_left (by simp; omega), List.getElem?_eq_getElem (by simp; omega), List.getElem_zip]
/-- A row behind an append is put back. -/
theorem SvS.inPut (h : SvL n m vi vr s) (h0 : 0 ≤ q) (h1 : q < n) {v1 : Value} {ys : List Int} (hM : Mem w0 W ℓ (svBn B bx) (svOb B n m T vt vi vr s ox) ((svRw vt vi vr s rx).set (1 + q.toNat) (v1, ys))) :
    SvS w0 (W.setCell ⟨B.bi, q.toNat, none⟩ v1) ℓ B n m T vt (vi.set q.toNat v1) vr { s with ins := s.ins.set q.toNat ys } bx ox rx := by
  refine ⟨?_, { h with vi := by rw [List.length_set]; exact h.vi, ins := by rw [List.length_set]; exact h.ins }⟩
  have := hM.set 2 rfl rfl q.toNat v1
  rw [List.setIfInBounds_toArray] at this
  have e : (svRw vt vi vr s rx).set (1 + q.toNat) (v1, ys) = svRw vt (vi.set q.toNat v1) vr { s with ins := s.ins.set q.toNat ys } rx := by
    unfold svRw
    rw [Nat.add_comm, List.set_cons_succ, List.set_append_left _ _ (by rw [List.length_zip, h.vi, h.ins, Nat.min_self]; omega), zip_set]
  rw [e] at this
  exact this
theorem SvS.lsPut (h : SvL n m vi vr s) (h0 : 0 ≤ q) (h1 : q < n) {v1 : Value} {ys : List Int} (hM : Mem w0 W ℓ (svBn B bx) (svOb B n m T vt vi vr s ox) ((svRw vt vi vr s rx).set (1 + n + q.toNat) (v1, ys))) :
    SvS w0 (W.setCell ⟨B.br, q.toNat, none⟩ v1) ℓ B n m T vt vi (vr.set q.toNat v1) { s with rls := s.rls.set q.toNat ys } bx ox rx := by
  refine ⟨?_, { h with vr := by rw [List.length_set]; exact h.vr, rls := by rw [List.length_set]; exact h.rls }⟩
  have := hM.set 3 rfl rfl q.toNat v1
  rw [List.setIfInBounds_toArray] at this
  have hz : (vi.zip s.ins).length = n := by rw [List.length_zip, h.vi, h.ins, Nat.min_self]
  have e : (svRw vt vi vr s rx).set (1 + n + q.toNat) (v1, ys) = svRw vt vi (vr.set q.toNat v1) { s with rls := s.rls.set q.toNat ys } rx := by
    unfold svRw
    rw [show 1 + n + q.toNat = (n + q.toNat) + 1 from by omega, List.set_cons_succ, List.set_append_right _ _ (by omega), hz, Nat.add_sub_cancel_left, List.set_append_left _ _ (by rw [List.length_zip, h.vr, h.rls, Nat.min_self]; omega), zip_set]
  rw [e] at this
  exact this
/-- One more block of one's own. -/
theorem Mem.addBlk {bns : List Nat} {obs : List Obj} {rws : List (Value × List Int)} (h : Mem w0 W ℓ bns obs rws) (hl : bns.length = obs.length) (o : Obj) : Mem w0 (W.alloc o) (lab W ℓ (2 * bns.length)) (bns ++ [W.heap.size]) (obs ++ [o]) rws := by
  have h2 := (h.relab (2 * bns.length)).alloc o
  refine ⟨fun c b o' h3 h4 => ?_, h2.row, h2.below⟩
  by_cases hc : c < bns.length
  · rw [List.getElem?_append_left hc] at h3
    rw [List.getElem?_append_left (by omega)] at h4
    exact h2.fix c b o' h3 h4
  · have hc2 : c = bns.length := by
      have := (List.getElem?_eq_some_iff.1 h3).1
      simp at this
      omega
    subst hc2
    rw [List.getElem?_append_right (Nat.le_refl _), Nat.sub_self] at h3
    rw [hl, List.getElem?_append_right (Nat.le_refl _), Nat.sub_self] at h4
    cases h3
    cases h4
    exact ⟨blk_new W o, lab_new (Nat.le_refl _), h.below.size⟩
theorem Mem.dropBlk {bns bns' : List Nat} {obs obs' : List Obj} {rws : List (Value × List Int)} (h : Mem w0 W ℓ (bns ++ bns') (obs ++ obs') rws) : Mem w0 W ℓ bns obs rws :=
  ⟨fun c b o h1 h2 => h.fix c b o (by rw [List.getElem?_append_left (List.getElem?_eq_some_iff.1 h1).1]; exact h1) (by rw [List.getElem?_append_left (List.getElem?_eq_some_iff.1 h2).1]; exact h2), h.row, h.below⟩
theorem SvS.addBlk (h : SvS w0 W ℓ B n m T vt vi vr s bx ox rx) (hl : bx.length = ox.length) (o : Obj) : SvS w0 (W.alloc o) (lab W ℓ (2 * (svBn B bx).length)) B n m T vt vi vr s (bx ++ [W.heap.size]) (ox ++ [o]) rx :=
  ⟨h.M.addBlk (by simp [svBn, svOb, hl]) o, h.L⟩
theorem SvS.dropBlk {bx' : List Nat} {ox' : List Obj} (h : SvS w0 W ℓ B n m T vt vi vr s (bx ++ bx') (ox ++ ox') rx) : SvS w0 W ℓ B n m T vt vi vr s bx ox rx :=
  ⟨Mem.dropBlk (bns' := bx') (obs' := ox') h.M, h.L⟩
/-- A block that is no cells and lay there joins one's own. -/
theorem Mem.addOld {bns : List Nat} {obs : List Obj} {rws : List (Value × List Int)} (h : Mem w0 W ℓ bns obs rws) (hl : bns.length = obs.length) {b : Nat} {o : Obj} (hb : W.heap[b]? = some o) (ho : o.isCells = false) (h0 : w0.heap.size ≤ b) (hn : b ∉ bns) :
    Mem w0 W (fun k => if k = b then 2 * bns.length else ℓ k) (bns ++ [b]) (obs ++ [o]) rws := by
  refine ⟨fun c b' o' h3 h4 => ?_, fun c v xs hr => ?_, h.below⟩
  · by_cases hc : c < bns.length
    · rw [List.getElem?_append_left hc] at h3
      rw [List.getElem?_append_left (by omega)] at h4
      have hne : b' ≠ b := fun e => hn (e ▸ List.mem_of_getElem? h3)
      obtain ⟨q1, q2, q3⟩ := h.fix c b' o' h3 h4
      exact ⟨q1, by show (if b' = b then _ else ℓ b') = _; rw [if_neg hne]; exact q2, q3⟩
    · have hc2 : c = bns.length := by
        have := (List.getElem?_eq_some_iff.1 h3).1
        simp at this
        omega
      subst hc2
      rw [List.getElem?_append_right (Nat.le_refl _), Nat.sub_self] at h3
      rw [hl, List.getElem?_append_right (Nat.le_refl _), Nat.sub_self] at h4
      cases h3
      cases h4
      exact ⟨hb, by show (if b = b then _ else ℓ b) = _; rw [if_pos rfl], h0⟩
  · refine Kd.R_mono (Kd.R_bound (h.row c v xs hr)) (fun k hk => ?_)
    have hne : k ≠ b := fun e => by
      obtain ⟨_, _, _, q, _, cells, hq⟩ := hk
      rw [e, hb] at hq
      obtain rfl := Option.some.inj hq
      cases ho
    show (if k = b then _ else ℓ k) = _
    rw [if_neg hne]
    exact hk.1
theorem SvS.addOld (h : SvS w0 W ℓ B n m T vt vi vr s bx ox rx) (hl : bx.length = ox.length) {b : Nat} {o : Obj} (hb : W.heap[b]? = some o) (ho : o.isCells = false) (h0 : w0.heap.size ≤ b) (hn : b ∉ svBn B bx) :
    SvS w0 W (fun k => if k = b then 2 * (svBn B bx).length else ℓ k) B n m T vt vi vr s (bx ++ [b]) (ox ++ [o]) rx :=
  ⟨h.M.addOld (by simp [svBn, svOb, hl]) hb ho h0 hn, h.L⟩
end
/-- The work that is handed out: the i-th told, and so on. -/
def stepV (n m : Int) (hd : Int → Int) (i : Nat) (s : SV) : Option SV :=
  if 0 ≤ rd s.told i ∧ rd s.told i < n then afterV n m hd (rd s.told i) (s.ins.getD (rd s.told i).toNat []) s else none
def waveV (n m : Int) (hd : Int → Int) : Nat → Nat → SV → Option SV
  | 0, i, s => if i < s.told.length then none else some s
  | f + 1, i, s => if i < s.told.length then (stepV n m hd i s).bind (waveV n m hd f (i + 1)) else some s
theorem waveV_seq {n m : Int} {hd : Int → Int} : ∀ (f i : Nat) (s s' : SV), waveV n m hd f i s = some s' → ∃ (K : Nat) (σ : Nat → SV), i ≤ K ∧ σ i = s ∧ σ K = s' ∧ (∀ k, i ≤ k → k < K → k < (σ k).told.length ∧ stepV n m hd k (σ k) = some (σ (k + 1))) ∧ ¬ K < (σ K).told.length := by
  have stop : ∀ (i : Nat) (s s' : SV), ¬ i < s.told.length → some s = some s' → ∃ (K : Nat) (σ : Nat → SV), i ≤ K ∧ σ i = s ∧ σ K = s' ∧ (∀ k, i ≤ k → k < K → k < (σ k).told.length ∧ stepV n m hd k (σ k) = some (σ (k + 1))) ∧ ¬ K < (σ K).told.length :=
    fun i s s' hlt h => ⟨i, fun _ => s, Nat.le_refl _, rfl, Option.some.inj h, fun k h1 h2 => by omega, hlt⟩
  intro f
  induction f with
  | zero =>
    intro i s s' h
    unfold waveV at h
    split at h
    · cases h
    · exact stop i s s' ‹_› h
  | succ f ih =>
    intro i s s' h
    unfold waveV at h
    split at h
    · rename_i hlt
      obtain ⟨s1, h1, h2⟩ := Option.bind_eq_some_iff.1 h
      obtain ⟨K, σ, hk, e1, e2, hs, hK⟩ := ih (i + 1) s1 s' h2
      refine ⟨K, fun k => if k = i then s else σ k, by omega, by simp, by simp only; rw [if_neg (by omega)]; exact e2, fun k q1 q2 => ?_, by simp only; rw [if_neg (by omega)]; exact hK⟩
      by_cases e : k = i
      · subst e
        simp only [if_true]
        rw [if_neg (by omega), e1]
        exact ⟨hlt, h1⟩
      · simp only
        rw [if_neg e, if_neg (by omega)]
        exact hs k (by omega) q2
    · exact stop i s s' ‹_› h
end Go.Proofs.Ythlmpioijjnmnaa.P
