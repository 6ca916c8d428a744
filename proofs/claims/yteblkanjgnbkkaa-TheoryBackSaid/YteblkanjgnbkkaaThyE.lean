/- A theory's bytes, plain: what Encode tells of a theory that may be. -/
import Derived.Test.YteblkanjgnbkkaaThyP
import Derived.Test.YteblkanjgnbkkaaThyO
namespace Go.Proofs.Yteblkanjgnbkkaa.P
open Go.RowKit Go.Proofs.YteblkanjgnbkkaaW.PrintWords Go.Proofs.Yteblkanjgnbkkaa.K
set_option linter.unusedVariables false
set_option linter.unusedSimpArgs false

/-- A theory that may be. -/
structure Fine (a0 : Int) (fo : List (List Int)) (rs : List S46) (be : List (List Int)) : Prop where
  an : 0 ≤ a0 ∧ a0 ≤ 4096
  len : (fo.length : Int) = a0
  row : ∀ r, r ∈ fo → r.length ≤ 64 ∧ (∀ x, x ∈ r → 0 ≤ x ∧ x < a0) ∧ r.Pairwise (· < ·)
  self : ∀ q : Nat, q < fo.length → (q : Int) ∉ nxL fo q
  sym : ∀ q : Nat, q < fo.length → ∀ f, f ∈ nxL fo q → (q : Int) ∈ nxL fo f
  r4 : rs.length ≤ 4096
  rule : ∀ r, r ∈ rs → (1 ≤ r.f0 ∧ r.f0 ≤ 3) ∧ (0 ≤ r.f1 ∧ r.f1 < a0) ∧ r.f2.length ≤ 16 ∧ (∀ x, x ∈ r.f2 → 0 ≤ x ∧ x < a0) ∧ r.f2.Pairwise (· < ·)
  bl : be.length = rs.length
  bea : ∀ b, b ∈ be → (∀ x, x ∈ b → 0 ≤ x ∧ x < rs.length) ∧ b.Pairwise (· < ·)
theorem fine_of {a0 : Int} {fo be : List (List Int)} {rs : List S46} (h : (chkS a0 fo rs be).1 = 0) : Fine a0 fo rs be := by
  obtain ⟨hp, hb, hf, hbe, _⟩ := check_pre h
  have hb0 := fun (q : Nat) (hq : q < fo.length) => (fstB_neg (p := fun q => badFoe a0 fo q) (d := fo.length) (i := 0)).1 (by unfold foesS at hf; omega) q (by omega) (by omega)
  refine ⟨hp.an, hp.len, fun r hr => ⟨(hp.row r hr).1, ris_iff.1 (hp.row r hr).2⟩, fun q hq hm => ?_, fun q hq f hm => ?_, hp.r4, fun r hr => ?_, hb, fun b hm => ?_⟩
  · have := hb0 q hq
    unfold badFoe at this
    simp only [Bool.or_eq_false_iff] at this
    have h2 := this.1.2
    rw [List.contains_iff_mem.2 hm] at h2
    cases h2
  · have := hb0 q hq
    unfold badFoe at this
    simp only [Bool.or_eq_false_iff] at this
    have h2 := List.any_eq_false.1 this.2 f hm
    simp only [Bool.not_eq_true, Bool.not_eq_false'] at h2
    exact List.contains_iff_mem.1 h2
  · obtain ⟨h1, h2, h3, h4⟩ := rule_of (hp.rule r hr)
    exact ⟨h1, h2, h3, ris_iff.1 h4⟩
  · have := ris_iff.1 (beats_in hb hbe b hm)
    exact ⟨fun x hx => by have := this.1 x hx; omega, this.2⟩
/-! the bytes -/
def uP (n : Int) : List Int := vlq n.toNat
def numsP (l : List Int) : List Int := l.flatMap uP
def lisP (l : List Int) : List Int := vlq l.length ++ numsP l
def abv (q : Int) (l : List Int) : List Int := l.filter (fun f => decide (q < f))
def foesP : Nat → List (List Int) → List Int
  | _, [] => []
  | q, l :: ls => lisP (abv q l) ++ foesP (q + 1) ls
def rulP : List S46 → List Int
  | [] => []
  | r :: rs => uP r.f0 ++ (uP r.f1 ++ (lisP r.f2 ++ rulP rs))
def beaP : List (List Int) → List Int
  | [] => []
  | l :: ls => lisP l ++ beaP ls
def encP (a0 : Int) (fo : List (List Int)) (rs : List S46) (be : List (List Int)) : List Int := [116, 104, 121, 1] ++ (uP a0 ++ (foesP 0 fo ++ (vlq rs.length ++ (rulP rs ++ beaP be))))
theorem uP_len {n : Int} (h : n < 18446744073709551616) : (uP n).length ≤ 10 := vlq_len10 _ (by omega)
theorem numsP_len : ∀ {l : List Int}, (∀ x, x ∈ l → x ≤ 1000000) → (numsP l).length ≤ 10 * l.length
  | [], _ => by simp [numsP]
  | x :: l, h => by
    have h1 := numsP_len (l := l) (fun y hy => h y (List.mem_cons_of_mem _ hy))
    have h2 := uP_len (n := x) (by have := h x List.mem_cons_self; omega)
    have e : numsP (x :: l) = uP x ++ numsP l := by simp [numsP]
    rw [e, List.length_append, List.length_cons]; omega
theorem lisP_len {l : List Int} (h : ∀ x, x ∈ l → x ≤ 1000000) (hl : l.length ≤ 1000000) : (lisP l).length ≤ 10 + 10 * l.length := by
  have h1 := numsP_len h
  have h2 := vlq_len10 l.length (by omega)
  unfold lisP
  rw [List.length_append]; omega
theorem abv_mem {q x : Int} {l : List Int} : x ∈ abv q l ↔ x ∈ l ∧ q < x := by simp [abv]
theorem abv_len (q : Int) (l : List Int) : (abv q l).length ≤ l.length := List.length_filter_le _ _
theorem foesP_len {a0 : Int} (ha : a0 ≤ 4096) : ∀ {ls : List (List Int)} (q : Nat), (∀ r, r ∈ ls → r.length ≤ 64 ∧ (∀ x, x ∈ r → 0 ≤ x ∧ x < a0)) → (foesP q ls).length ≤ 650 * ls.length
  | [], _, _ => by simp [foesP]
  | l :: ls, q, h => by
    have h1 := foesP_len ha (ls := ls) (q + 1) (fun r hr => h r (List.mem_cons_of_mem _ hr))
    have h0 := h l List.mem_cons_self
    have h3 := abv_len q l
    have h2 := lisP_len (l := abv q l) (fun x hx => by have := h0.2 x (abv_mem.1 hx).1; omega) (by omega)
    simp only [foesP, List.length_append, List.length_cons]; omega
theorem rulP_len {a0 : Int} (ha : a0 ≤ 4096) : ∀ {rs : List S46}, (∀ r, r ∈ rs → (1 ≤ r.f0 ∧ r.f0 ≤ 3) ∧ (0 ≤ r.f1 ∧ r.f1 < a0) ∧ r.f2.length ≤ 16 ∧ (∀ x, x ∈ r.f2 → 0 ≤ x ∧ x < a0) ∧ r.f2.Pairwise (· < ·)) → (rulP rs).length ≤ 190 * rs.length
  | [], _ => by simp [rulP]
  | r :: rs, h => by
    have h1 := rulP_len ha (rs := rs) (fun r hr => h r (List.mem_cons_of_mem _ hr))
    obtain ⟨a1, a2, a3, a4, _⟩ := h r List.mem_cons_self
    have h2 := lisP_len (l := r.f2) (fun x hx => by have := a4 x hx; omega) (by omega)
    have h3 := uP_len (n := r.f0) (by omega)
    have h4 := uP_len (n := r.f1) (by omega)
    simp only [rulP, List.length_append, List.length_cons]; omega
theorem pair_len {m : Nat} {l : List Int} (h : (∀ x, x ∈ l → 0 ≤ x ∧ x < m) ∧ l.Pairwise (· < ·)) : l.length ≤ m := nodup_len' m l (h.2.imp (fun h e => by omega)) h.1
theorem beaP_len {m : Nat} (hm : m ≤ 4096) : ∀ {be : List (List Int)}, (∀ b, b ∈ be → (∀ x, x ∈ b → 0 ≤ x ∧ x < m) ∧ b.Pairwise (· < ·)) → (beaP be).length ≤ 50000 * be.length
  | [], _ => by simp [beaP]
  | b :: be, h => by
    have h1 := beaP_len hm (be := be) (fun r hr => h r (List.mem_cons_of_mem _ hr))
    have h0 := h b List.mem_cons_self
    have hl := pair_len h0
    have h2 := lisP_len (l := b) (fun x hx => by have := h0.1 x hx; omega) (by omega)
    simp only [beaP, List.length_append, List.length_cons]; omega
theorem vlq_pos (n : Nat) : 0 < (vlq n).length := by
  by_cases h : n < 128
  · rw [vlq_small h]; simp
  · rw [vlq_big h]; simp
theorem bytes_app {a b : List Int} (ha : Bytes a) (hb : Bytes b) : Bytes (a ++ b) := fun x hx => (List.mem_append.1 hx).elim (ha x) (hb x)
theorem numsP_bytes (l : List Int) : Bytes (numsP l) := fun x hx => by
  obtain ⟨y, _, hy⟩ := List.mem_flatMap.1 hx
  exact vlq_bytes _ x hy
theorem lisP_bytes (l : List Int) : Bytes (lisP l) := bytes_app (vlq_bytes _) (numsP_bytes l)
theorem foesP_bytes : ∀ (ls : List (List Int)) (q : Nat), Bytes (foesP q ls)
  | [], _ => fun x hx => by simp [foesP] at hx
  | l :: ls, q => bytes_app (lisP_bytes _) (foesP_bytes ls (q + 1))
theorem rulP_bytes : ∀ (rs : List S46), Bytes (rulP rs)
  | [] => fun x hx => by simp [rulP] at hx
  | r :: rs => bytes_app (vlq_bytes _) (bytes_app (vlq_bytes _) (bytes_app (lisP_bytes _) (rulP_bytes rs)))
theorem beaP_bytes : ∀ (be : List (List Int)), Bytes (beaP be)
  | [] => fun x hx => by simp [beaP] at hx
  | b :: be => bytes_app (lisP_bytes _) (beaP_bytes be)
theorem encP_bytes (a0 : Int) (fo : List (List Int)) (rs : List S46) (be : List (List Int)) : Bytes (encP a0 fo rs be) := by
  refine bytes_app (fun x hx => ?_) (bytes_app (vlq_bytes _) (bytes_app (foesP_bytes _ _) (bytes_app (vlq_bytes _) (bytes_app (rulP_bytes _) (beaP_bytes _)))))
  simp only [List.mem_cons, List.not_mem_nil, or_false] at hx
  omega
theorem encP_len {a0 : Int} {fo be : List (List Int)} {rs : List S46} (h : Fine a0 fo rs be) : (encP a0 fo rs be).length ≤ 300000000 := by
  have h1 := foesP_len h.an.2 (ls := fo) 0 (fun r hr => ⟨(h.row r hr).1, (h.row r hr).2.1⟩)
  have h2 := rulP_len h.an.2 h.rule
  have h3 := beaP_len h.r4 h.bea
  have h4 := uP_len (n := a0) (by have := h.an; omega)
  have h5 := vlq_len10 rs.length (by have := h.r4; omega)
  have := h.an
  have := h.len
  have := h.r4
  have := h.bl
  unfold encP
  simp only [List.length_append, List.length_cons, List.length_nil]
  omega
/-! what the walk's functions tell -/
theorem u_ev {n : Int} (h0 : 0 ≤ n) (h1 : n ≤ 1000000) : Ev (fun k => uuF k n) (uP n) := by
  unfold uuF uP
  have e : IntKind.u64.wrap n = ((n.toNat : Nat) : Int) := by rw [IntKind.wrap_u64]; omega
  rw [e]
  exact uint _ (by omega)
theorem nums_ev : ∀ {l : List Int}, (∀ x, x ∈ l → 0 ≤ x ∧ x ≤ 1000000) → Ev (fun k => numsB k l) (numsP l)
  | [], _ => by simp only [numsB, numsP, List.flatMap_nil]; exact Ev.now _
  | x :: l, h => by
    have hx := h x List.mem_cons_self
    have e : numsP (x :: l) = uP x ++ numsP l := by simp [numsP]
    rw [e]
    simp only [numsB]
    exact Ev.bind (u_ev hx.1 hx.2) (Ev.bind (nums_ev (fun y hy => h y (List.mem_cons_of_mem _ hy))) (Ev.now _))
theorem lis_ev {l : List Int} (h : ∀ x, x ∈ l → 0 ≤ x ∧ x ≤ 1000000) (hl : l.length ≤ 1000000) : Ev (fun k => lisB k l) (lisP l) := by
  unfold lisB lisP
  have := u_ev (n := (l.length : Int)) (by omega) (by omega)
  unfold uP at this
  rw [Int.toNat_natCast] at this
  exact Ev.bind this (Ev.bind (nums_ev h) (Ev.now _))
theorem drop_abv {l : List Int} {q : Int} {p : Nat} (hp : p ≤ l.length) (h1 : ∀ i, i < p → rd l (i : Int) < q) (h2 : ∀ i, p ≤ i → i < l.length → q ≤ rd l (i : Int)) (hq : q ∉ l) : l.drop p = abv q l := by
  unfold abv
  conv => rhs; rw [← List.take_append_drop p l, List.filter_append]
  have e1 : (l.take p).filter (fun f => decide (q < f)) = [] := by
    rw [List.filter_eq_nil_iff]
    intro x hx
    obtain ⟨i, hi, e⟩ := List.getElem_of_mem hx
    rw [List.getElem_take] at e
    have hi' : i < p := by rw [List.length_take] at hi; omega
    have := h1 i hi'
    rw [rd_lt (by omega), e] at this
    simp; omega
  have e2 : (l.drop p).filter (fun f => decide (q < f)) = l.drop p := by
    rw [List.filter_eq_self]
    intro x hx
    obtain ⟨i, hi, e⟩ := List.getElem_of_mem hx
    rw [List.getElem_drop] at e
    have hi' : p + i < l.length := by rw [List.length_drop] at hi; omega
    have := h2 (p + i) (by omega) hi'
    rw [rd_lt hi', e] at this
    have hne : x ≠ q := fun e2 => hq (by rw [← e2]; exact List.mem_of_mem_drop hx)
    simp; omega
  rw [e1, e2, List.nil_append]
theorem foes_ev2 {a0 : Int} (ha : a0 ≤ 4096) : ∀ {ls : List (List Int)} (q : Nat), (∀ (j : Nat) (r : List Int), ls[j]? = some r → r.length ≤ 64 ∧ (∀ x, x ∈ r → 0 ≤ x ∧ x < a0) ∧ r.Pairwise (· < ·) ∧ ((q + j : Nat) : Int) ∉ r) → Ev (fun k => foesB k q ls) (foesP q ls)
  | [], _, _ => by simp only [foesB, foesP]; exact Ev.now _
  | l :: ls, q, h => by
    obtain ⟨a1, a2, a3, a4⟩ := h 0 l rfl
    obtain ⟨p, p1, p2, p3, p4⟩ := search_ev (q : Int) (by omega) a3
    have hd := drop_abv p1 p2 p3 (by simpa using a4)
    simp only [foesB, foesP]
    refine Ev.bind p4 ?_
    have hb : (0 : Int) ≤ (p : Int) ∧ (p : Int) ≤ (l.length : Int) := ⟨by omega, by omega⟩
    simp only [if_pos hb, Int.toNat_natCast, hd]
    have hl := abv_len q l
    exact Ev.bind (lis_ev (fun x hx => by have := a2 x (abv_mem.1 hx).1; omega) (by omega)) (Ev.bind (foes_ev2 ha (q + 1) (fun j r hj => by
      have := h (j + 1) r (by simpa using hj)
      rw [show q + (j + 1) = q + 1 + j by omega] at this
      exact this)) (Ev.now _))
theorem rul_ev {a0 : Int} (ha : a0 ≤ 4096) : ∀ {rs : List S46}, (∀ r, r ∈ rs → (1 ≤ r.f0 ∧ r.f0 ≤ 3) ∧ (0 ≤ r.f1 ∧ r.f1 < a0) ∧ r.f2.length ≤ 16 ∧ (∀ x, x ∈ r.f2 → 0 ≤ x ∧ x < a0) ∧ r.f2.Pairwise (· < ·)) → Ev (fun k => rulB k rs) (rulP rs)
  | [], _ => by simp only [rulB, rulP]; exact Ev.now _
  | r :: rs, h => by
    obtain ⟨a1, a2, a3, a4, _⟩ := h r List.mem_cons_self
    simp only [rulB, rulP]
    exact Ev.bind (u_ev (by omega) (by omega)) (Ev.bind (u_ev (by omega) (by omega)) (Ev.bind (lis_ev (fun x hx => by have := a4 x hx; omega) (by omega)) (Ev.bind (rul_ev ha (fun r hr => h r (List.mem_cons_of_mem _ hr))) (Ev.now _))))
theorem bea_ev {m : Nat} (hm : m ≤ 4096) : ∀ {be : List (List Int)}, (∀ b, b ∈ be → (∀ x, x ∈ b → 0 ≤ x ∧ x < m) ∧ b.Pairwise (· < ·)) → Ev (fun k => beaB k be) (beaP be)
  | [], _ => by simp only [beaB, beaP]; exact Ev.now _
  | b :: be, h => by
    have h0 := h b List.mem_cons_self
    have hl := pair_len h0
    simp only [beaB, beaP]
    exact Ev.bind (lis_ev (fun x hx => by have := h0.1 x hx; omega) (by omega)) (Ev.bind (bea_ev hm (fun r hr => h r (List.mem_cons_of_mem _ hr))) (Ev.now _))
theorem encB_ev {a0 : Int} {fo be : List (List Int)} {rs : List S46} (h : Fine a0 fo rs be) : Ev (fun k => encB k a0 fo rs be) (encP a0 fo rs be) := by
  unfold encB encP
  have hl := encP_len h
  unfold encP at hl
  have hm := u_ev (n := (rs.length : Int)) (by omega) (by have := h.r4; omega)
  have e : uP (rs.length : Int) = vlq rs.length := by unfold uP; rw [Int.toNat_natCast]
  rw [e] at hm
  refine Ev.bind (u_ev h.an.1 (by have := h.an; omega)) (Ev.bind (foes_ev2 h.an.2 0 (fun j r hj => ?_)) (Ev.bind hm (Ev.bind (rul_ev h.an.2 h.rule) (Ev.bind (bea_ev h.r4 h.bea) ?_))))
  · have hr := List.mem_of_getElem? hj
    have hjl : j < fo.length := (List.getElem?_eq_some_iff.1 hj).1
    have hs := h.self j hjl
    have en : nxL fo (j : Int) = r := by simp [nxL, List.getD_eq_getElem?_getD, hj]
    rw [en] at hs
    exact ⟨(h.row r hr).1, (h.row r hr).2.1, (h.row r hr).2.2, by rw [Nat.zero_add]; exact hs⟩
  · have hp : 0 < (uP a0).length := vlq_pos _
    rw [if_pos ⟨hp, by simp only [List.length_append, List.length_cons, List.length_nil] at hl ⊢; omega⟩]
    exact Ev.now _
theorem encode_ev {a0 : Int} {fo be : List (List Int)} {rs : List S46} (hf : WfRows fo) (hb : WfRows be) : Ev (fun k => theory_Encode.f k a0 fo rs be) (if (chkS a0 fo rs be).1 = 0 then (encP a0 fo rs be, 0) else ([], (chkS a0 fo rs be).1)) := by
  unfold theory_Encode.f
  refine Ev.bind (check_ev hf hb) ?_
  by_cases h : (chkS a0 fo rs be).1 = 0
  · simp only [if_pos h]
    exact Ev.bind (encB_ev (fine_of h)) (Ev.now _)
  · simp only [if_neg h]
    exact Ev.now _
end Go.Proofs.Yteblkanjgnbkkaa.P
