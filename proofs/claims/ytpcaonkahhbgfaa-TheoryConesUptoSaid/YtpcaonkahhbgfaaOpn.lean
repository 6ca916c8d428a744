/- An argument that came in, opened: what it reads as, of whatever kind (numbers, texts, structs, rows of them). -/
import Derived.Test.YtpcaonkahhbgfaaWWords
import Derived.Test.YtpcaonkahhbgfaaWLast
import Derived.SizedLaws
import Derived.ChangeSlices
import Derived.ChangeArms
import Derived.Deep.Slices
namespace Go.Proofs.YtpcaonkahhbgfaaW.PrintWords
open Go.RowKit Go.ChangeShapes Go.WideShapes

/-- What reads as data of type t stands for some a of the kind d, which is well-formed. -/
def Opn {H : Type} (enc : TypeId × Value → H) (P : Program) (W : World) {α : Type} (d : Kd α) (t : TypeId) (wf : α → Prop) : Prop :=
  ∀ fuel cs x, DataW.trod enc P W 0 (fun _ => true) true fuel t cs = some x → (∀ n ∈ x.1.weights P t, n ≤ reachBytes) → ∃ a, d.K W a cs ∧ wf a
section
variable {H : Type} {enc : TypeId × Value → H} {P : Program} {W : World} {α β : Type}
theorem Opn.int {t : TypeId} {k : IntKind} (ht : P.underlying t = some (.int k)) : Opn enc P W (Kd.int k) t (fun n => (Lit.int k n).wf = true) := by
  intro fuel cs x h _
  cases fuel with
  | zero => simp [DataW.trod] at h
  | succ n =>
    unfold DataW.trod at h
    rw [ht] at h
    split at h <;> simp_all
    exact ⟨_, rfl, h.1.2⟩
theorem Opn.bool {t : TypeId} (ht : P.underlying t = some .bool) : Opn enc P W Kd.bool t (fun _ => True) := by
  intro fuel cs x h _
  cases fuel with
  | zero => simp [DataW.trod] at h
  | succ n =>
    unfold DataW.trod at h
    rw [ht] at h
    split at h <;> simp_all
    rename_i b
    cases b
    · exact .inl rfl
    · exact .inr rfl
theorem Opn.string {t : TypeId} (ht : P.underlying t = some .string) : Opn enc P W Kd.string t (fun s => s.size ≤ 140737488351232) := by
  intro fuel cs x h hw
  cases fuel with
  | zero => simp [DataW.trod] at h
  | succ n =>
    unfold DataW.trod at h
    rw [ht] at h
    split at h <;> simp_all
    obtain ⟨h1, rfl⟩ := h
    refine ⟨_, rfl, ?_⟩
    have := hw _ (by simp [DataW.weights]; rfl)
    simpa [reachBytes] using this
theorem Opn.imp {d : Kd α} {t : TypeId} {wf wf' : α → Prop} (h : Opn enc P W d t wf) (hi : ∀ a, wf a → wf' a) : Opn enc P W d t wf' := fun f cs x hx hw => by
  obtain ⟨a, k, w⟩ := h f cs x hx hw
  exact ⟨a, k, hi a w⟩
theorem Opn.iso {d : Kd α} {t : TypeId} {wf : α → Prop} (h : Opn enc P W d t wf) (f : β → α) (g : α → β) (hg : ∀ a, f (g a) = a) : Opn enc P W (Kd.iso d f) t (fun b => wf (f b)) := fun n cs x hx hw => by
  obtain ⟨a, k, w⟩ := h n cs x hx hw
  exact ⟨g a, by show d.K W (f (g a)) cs; rw [hg]; exact k, by show wf (f (g a)); rw [hg]; exact w⟩
theorem all_mem {P : Program} {e : TypeId} {l : List (DataW H)} {d : DataW H} (h : d ∈ l) : ∀ n ∈ d.weights P e, n ∈ DataW.weightsAll P e l := by
  induction l with
  | nil => cases h
  | cons a l ih =>
    intro n hn
    rw [DataW.weightsAll]
    cases h with
    | head => exact List.mem_append_left _ hn
    | tail _ h => exact List.mem_append_right _ (ih h n hn)
theorem cells_read {W : World} {b : Nat} {a : Addr} {n : Nat} {cs : List Value} (h : W.cells? b a n = some cs) : cs.length = n ∧ ∀ i u, cs[i]? = some u → W.cell? (a.add i) = some u := by
  unfold World.cells? at h
  split at h
  · have hl := mapM_some_length h
    refine ⟨by simpa using hl, fun i u hu => ?_⟩
    have hi : i < n := by have := (List.getElem?_eq_some_iff.1 hu).1; simp at hl; omega
    have := mapM_some_get h i i (by simp [hi])
    rw [this, hu]
  · cases h
theorem Opn.slice {d : Kd α} {t e : TypeId} {wf : α → Prop} (ht : P.underlying t = some (.slice e)) (hc : P.cellsOf e = d.sz) (h : Opn enc P W d e wf) :
    Opn enc P W (Kd.slice e d) t (fun xs => xs.length * P.bytesOf e ≤ 140737488351232 ∧ ∀ x ∈ xs, wf x) := by
  intro fuel cs x hx hw
  rcases Go.Deep.open_slice ht hx with ⟨rfl, rfl⟩ | ⟨a, len, cap, m, n, D, Pl, rfl, _, hl, hm, hmm, rfl, hel⟩
  · exact ⟨[], ⟨none, 0, rfl, Nat.le_refl _, Kd.C_nil _ _⟩, by simp, by simp⟩
  · have hmc : m = cap := by simpa using hmm
    subst hmc
    have hone : ∀ i, i < len → ∃ y : α × List Value, W.cells? 0 (a.add (i * P.cellsOf e)) (P.cellsOf e) = some y.2 ∧ d.K W y.1 y.2 ∧ wf y.1 := by
      intro i hi
      obtain ⟨cs', h1, h2⟩ := hel i (by omega)
      obtain ⟨b, hk, hwf⟩ := h _ _ _ h2 (fun q hq => hw q (by
        simp only [DataW.weights, ht]
        exact List.mem_cons_of_mem _ (List.mem_append_left _ (all_mem (List.mem_map_of_mem (List.mem_range.2 hi)) q hq))))
      exact ⟨(b, cs'), h1, hk, hwf⟩
    rcases Nat.eq_zero_or_pos len with h0 | h0
    · subst h0
      exact ⟨[], ⟨some a, m, rfl, Nat.zero_le _, rfl, Nat.zero_le _, fun h => absurd h (by simp)⟩, by simp, by simp⟩
    haveI : Inhabited (α × List Value) := ⟨Classical.choose (hone 0 h0)⟩
    obtain ⟨f, hf⟩ := Go.Deep.choose_lt hone
    have hmax : maxLen = 9223372036854775807 := rfl
    refine ⟨(List.range len).map fun i => (f i).1, ⟨some a, m, by simp, by simpa using hl, ?_⟩, ?_, ?_⟩
    · refine ⟨by simp, by simp; omega, fun _ => ⟨a, rfl, fun j p hj => ?_⟩⟩
      simp only [List.getElem?_map, Option.map_eq_some_iff] at hj
      obtain ⟨i, hi, rfl⟩ := hj
      obtain ⟨hi1, hi2⟩ := List.getElem?_eq_some_iff.1 hi
      have hjl : j < len := by simpa using hi1
      have : i = j := by rw [← hi2]; simp
      subst this
      obtain ⟨g1, g2, g3⟩ := hf i hjl
      obtain ⟨l1, l2⟩ := cells_read g1
      refine ⟨(f i).2, by rw [l1, hc], g2, fun q u hu => ?_⟩
      have := l2 q u hu
      rw [Go.Deep.add_add, hc] at this
      exact this
    · have := hw _ (by simp only [DataW.weights, ht]; exact List.mem_cons_self ..)
      simp only [List.length_map, List.length_range] at this ⊢
      have h2 : len * P.bytesOf e ≤ (len + (m - len)) * P.bytesOf e := Nat.mul_le_mul_right _ (by omega)
      unfold reachBytes at this
      omega
    · intro y hy
      obtain ⟨i, hi, rfl⟩ := List.mem_map.1 hy
      exact (hf i (List.mem_range.1 hi)).2.2
/-- The fields of a struct, from one on. -/
def OpnF {H : Type} (enc : TypeId × Value → H) (P : Program) (W : World) {α : Type} (fs : List Field) (off : Nat) (d : Kd α) (wf : α → Prop) : Prop :=
  ∀ fuel (cs : List Value) (ys : List (DataW H × List MemPlace)), (∀ (i : Nat) (f : Field), fs[i]? = some f → DataW.trod enc P W 0 (fun _ => true) true fuel f.type ((cs.drop f.offset).take (P.cellsOf f.type)) = ys[i]?) → ys.length = fs.length → cs.length = off + d.sz →
    (∀ n ∈ DataW.weightsEach P (fs.map (·.type)) (ys.map (·.1)), n ≤ reachBytes) → ∃ a, d.K W a (cs.drop off) ∧ wf a
theorem OpnF.one {f : Field} {off : Nat} {d : Kd α} {wf : α → Prop} (ho : f.offset = off) (hc : P.cellsOf f.type = d.sz) (h : Opn enc P W d f.type wf) : OpnF enc P W [f] off d wf := by
  intro fuel cs ys hy hl hlen hw
  match ys, hl with
  | [y], _ =>
    have h0 : DataW.trod enc P W 0 (fun _ => true) true fuel f.type ((cs.drop f.offset).take (P.cellsOf f.type)) = some y := hy 0 f rfl
    rw [ho, hc, List.take_of_length_le (by rw [List.length_drop]; omega)] at h0
    exact h _ _ _ h0 (fun n hn => hw n (by simp only [List.map_cons, List.map_nil, DataW.weightsEach]; exact List.mem_append_left _ hn))
theorem OpnF.cons {f : Field} {fs : List Field} {off : Nat} {d : Kd α} {d' : Kd β} {wf : α → Prop} {wf' : β → Prop} (ho : f.offset = off) (hc : P.cellsOf f.type = d.sz) (h : Opn enc P W d f.type wf) (h' : OpnF enc P W fs (off + d.sz) d' wf') :
    OpnF enc P W (f :: fs) off (Kd.pair d d') (fun p => wf p.1 ∧ wf' p.2) := by
  intro fuel cs ys hy hl hlen hw
  match ys, hl with
  | y :: ys, hl =>
    have h0 : DataW.trod enc P W 0 (fun _ => true) true fuel f.type ((cs.drop f.offset).take (P.cellsOf f.type)) = some y := hy 0 f rfl
    have hsz : (Kd.pair d d').sz = d.sz + d'.sz := rfl
    rw [hsz] at hlen
    rw [ho, hc] at h0
    obtain ⟨a, k1, w1⟩ := h _ _ _ h0 (fun n hn => hw n (by simp only [List.map_cons, DataW.weightsEach]; exact List.mem_append_left _ hn))
    obtain ⟨b, k2, w2⟩ := h' fuel cs ys (fun i g hg => hy (i + 1) g (by simpa using hg)) (by simpa using hl) (by omega) (fun n hn => hw n (by simp only [List.map_cons, DataW.weightsEach]; exact List.mem_append_right _ hn))
    refine ⟨(a, b), ⟨(cs.drop off).take d.sz, cs.drop (off + d.sz), ?_, k1, k2⟩, w1, w2⟩
    rw [← List.drop_drop, List.take_append_drop]
theorem Opn.struct {t : TypeId} {fs : Array Field} {d : Kd α} {wf : α → Prop} (ht : P.underlying t = some (.struct fs)) (hc : P.cellsOf t = d.sz) (h : OpnF enc P W fs.toList 0 d wf) : Opn enc P W d t wf := by
  intro fuel cs x hx hw
  obtain ⟨ys, n, _, rfl, hl, hlen, hf⟩ := DataW.trod_struct ht hx
  obtain ⟨a, k, w⟩ := h n cs ys (fun i f hi => hf i f (by simpa using hi)) (by simpa using hlen) (by rw [hl, hc, Nat.zero_add]) (fun q hq => hw q (by simp only [DataW.weights, ht]; exact hq))
  exact ⟨a, by simpa using k, w⟩
end
end Go.Proofs.YtpcaonkahhbgfaaW.PrintWords
