/- Tarjan's search, as a plain function, and what it finds: two nodes have one number just if each leads to the other, and numbers do not rise along edges. -/
namespace Go.Proofs.Ytpcaonkahhbgfaa.K

def ga (l : List Int) (i : Int) : Int := l.getD i.toNat 0
def gb (l : List Bool) (i : Int) : Bool := l.getD i.toNat false

theorem ga_set {l : List Int} {i j x : Int} (hi : 0 ≤ i) (hj : 0 ≤ j) (hl : i < l.length) : ga (l.set i.toNat x) j = if j = i then x else ga l j := by
  unfold ga
  by_cases h : j = i
  · subst h
    rw [if_pos rfl, List.getD_eq_getElem?_getD, List.getElem?_set, if_pos rfl, if_pos (by omega)]; rfl
  · rw [if_neg h, List.getD_eq_getElem?_getD, List.getElem?_set, if_neg (by omega), ← List.getD_eq_getElem?_getD]
theorem gb_set {l : List Bool} {i j : Int} {x : Bool} (hi : 0 ≤ i) (hj : 0 ≤ j) (hl : i < l.length) : gb (l.set i.toNat x) j = if j = i then x else gb l j := by
  unfold gb
  by_cases h : j = i
  · subst h
    rw [if_pos rfl, List.getD_eq_getElem?_getD, List.getElem?_set, if_pos rfl, if_pos (by omega)]; rfl
  · rw [if_neg h, List.getD_eq_getElem?_getD, List.getElem?_set, if_neg (by omega), ← List.getD_eq_getElem?_getD]

/-- The search's memory. -/
structure KS where
  ix : List Int
  lo : List Int
  on : List Bool
  st : List Int
  of : List Int
  ct : Int
  kn : Int

def popK (n v : Int) : Nat → KS → Int → Option KS
  | 0, _, _ => none
  | k + 1, s, w => if w = v then some s else if s.st = [] then none else
      if 0 ≤ s.st.getLastD 0 ∧ s.st.getLastD 0 < n then
        popK n v k { s with st := s.st.dropLast, on := s.on.set (s.st.getLastD 0).toNat false, of := s.of.set (s.st.getLastD 0).toNat s.kn } (s.st.getLastD 0)
      else none

def eachK (n : Int) (rec : KS → Int → Option KS) (v : Int) : List Int → KS → Option KS
  | [], s => some s
  | w :: ws, s => if 0 ≤ w ∧ w < n then
      if ga s.ix w = 0 then (rec s w).bind fun s' => eachK n rec v ws { s' with lo := s'.lo.set v.toNat (min (ga s'.lo v) (ga s'.lo w)) }
      else if gb s.on w = true then eachK n rec v ws { s with lo := s.lo.set v.toNat (min (ga s.lo v) (ga s.ix w)) }
      else eachK n rec v ws s
    else none

def openK (s : KS) (v : Int) : KS := { s with ct := s.ct + 1, ix := s.ix.set v.toNat (s.ct + 1), lo := s.lo.set v.toNat (s.ct + 1), st := s.st ++ [v], on := s.on.set v.toNat true }
def shutK (n v : Int) (s : KS) : Option KS := if ga s.lo v = ga s.ix v then (popK n v (s.st.length + 1) s (-1)).bind (fun s => if 0 ≤ s.kn ∧ s.kn < 1000000 then some { s with kn := s.kn + 1 } else none) else some s

def visitK (nx : Int → List Int) (n : Int) : Nat → KS → Int → Option KS
  | 0, _, _ => none
  | k + 1, s, v => if (0 ≤ v ∧ v < n) ∧ (0 ≤ s.ct ∧ s.ct < 1000000) ∧ (0 ≤ s.kn ∧ s.kn < 1000000) ∧ s.st.length < 1000000 then (eachK n (visitK nx n k) v (nx v) (openK s v)).bind (shutK n v) else none

def fromK (nx : Int → List Int) (n : Int) : Nat → Nat → KS → Option KS
  | 0, _, s => some s
  | d + 1, i, s => if ga s.ix i = 0 then (visitK nx n (n.toNat + 1) s i).bind (fromK nx n d (i + 1)) else fromK nx n d (i + 1) s

def newK (n : Int) : KS := { ix := List.replicate n.toNat 0, lo := List.replicate n.toNat 0, on := List.replicate n.toNat false, st := [], of := List.replicate n.toNat 0, ct := 0, kn := 0 }
def knotK (nx : Int → List Int) (n : Int) : Option KS := fromK nx n n.toNat 0 (newK n)

def path (nx : Int → List Int) : Nat → Int → Int → Prop
  | 0, x, y => x = y
  | k + 1, x, y => ∃ z, z ∈ nx x ∧ path nx k z y
def Reach (nx : Int → List Int) (x y : Int) : Prop := ∃ k, path nx k x y
theorem Reach.refl (nx : Int → List Int) (x : Int) : Reach nx x x := ⟨0, rfl⟩
theorem Reach.head {nx : Int → List Int} {x y z : Int} (h : y ∈ nx x) (k : Reach nx y z) : Reach nx x z := by
  obtain ⟨k, hk⟩ := k
  exact ⟨k + 1, y, h, hk⟩
theorem Reach.one {nx : Int → List Int} {x y : Int} (h : y ∈ nx x) : Reach nx x y := Reach.head h (Reach.refl nx y)
theorem path_trans {nx : Int → List Int} {y z : Int} (h : Reach nx y z) : ∀ k x, path nx k x y → Reach nx x z
  | 0, x, e => by cases e; exact h
  | k + 1, x, ⟨u, hu, hk⟩ => Reach.head hu (path_trans h k u hk)
theorem Reach.trans {nx : Int → List Int} {x y z : Int} (h : Reach nx x y) (k : Reach nx y z) : Reach nx x z := by
  obtain ⟨m, hm⟩ := h
  exact path_trans k m x hm
theorem Reach.tail {nx : Int → List Int} {x y z : Int} (h : Reach nx x y) (k : z ∈ nx y) : Reach nx x z := h.trans (Reach.one k)
theorem path_cross {nx : Int → List Int} {P : Int → Prop} {z : Int} (hz : ¬ P z) : ∀ k x, P x → path nx k x z → ∃ a b, P a ∧ b ∈ nx a ∧ ¬ P b ∧ Reach nx b z
  | 0, x, hx, e => by cases e; exact absurd hx hz
  | k + 1, x, hx, ⟨u, hu, hk⟩ => by
    by_cases h : P u
    · exact path_cross hz k u h hk
    · exact ⟨x, u, hx, hu, h, k, hk⟩
theorem Reach.cross {nx : Int → List Int} {P : Int → Prop} {x z : Int} (h : Reach nx x z) (hx : P x) (hz : ¬ P z) : ∃ a b, P a ∧ b ∈ nx a ∧ ¬ P b ∧ Reach nx b z := by
  obtain ⟨k, hk⟩ := h
  exact path_cross hz k x hx hk
/-- What is closed under edges is closed under reaching. -/
theorem Reach.closed {nx : Int → List Int} {P : Int → Prop} (hP : ∀ x, P x → ∀ y ∈ nx x, P y) {x z : Int} (h : Reach nx x z) (hx : P x) : P z := by
  by_cases hz : P z
  · exact hz
  · obtain ⟨a, b, ha, hb, hn, _⟩ := h.cross hx hz
    exact absurd (hP a ha b hb) hn

/-- A node's number. -/
def V (n x : Int) : Prop := 0 ≤ x ∧ x < n

structure Inv (nx : Int → List Int) (n : Int) (s : KS) (G : Int → Prop) : Prop where
  lix : (s.ix.length : Int) = n
  llo : (s.lo.length : Int) = n
  lon : (s.on.length : Int) = n
  lof : (s.of.length : Int) = n
  ctb : 0 ≤ s.ct
  wh : (s.ix.count 0 : Int) + s.ct = n
  ixb : ∀ x, V n x → 0 ≤ ga s.ix x ∧ ga s.ix x ≤ s.ct
  inj : ∀ x y, V n x → V n y → ga s.ix x = ga s.ix y → ga s.ix x ≠ 0 → x = y
  stV : ∀ x, x ∈ s.st → V n x
  stS : s.st.Pairwise (fun a b => ga s.ix a < ga s.ix b)
  stO : ∀ x, V n x → (x ∈ s.st ↔ gb s.on x = true)
  onI : ∀ x, x ∈ s.st → ga s.ix x ≠ 0
  gr : ∀ g, G g → g ∈ s.st
  bw : ∀ x, V n x → ga s.ix x ≠ 0 → ¬ G x → ∀ y, y ∈ nx x → ga s.ix y ≠ 0
  up : ∀ y, y ∈ s.st → ∃ g, G g ∧ ga s.ix g ≤ ga s.ix y ∧ Reach nx y g
  dn : ∀ g, G g → ∀ y, y ∈ s.st → ga s.ix g ≤ ga s.ix y → Reach nx g y
  dc : ∀ x, V n x → ga s.ix x ≠ 0 → x ∉ s.st → ∀ y, y ∈ nx x → y ∉ s.st
  ofb : ∀ x, V n x → ga s.ix x ≠ 0 → x ∉ s.st → 0 ≤ ga s.of x ∧ ga s.of x < s.kn
  ofr : ∀ x y, V n x → V n y → ga s.ix x ≠ 0 → ga s.ix y ≠ 0 → x ∉ s.st → y ∉ s.st → ga s.of x = ga s.of y → Reach nx x y
  ofm : ∀ x, V n x → ga s.ix x ≠ 0 → x ∉ s.st → ∀ y, y ∈ nx x → ga s.of y ≤ ga s.of x
  knb : 0 ≤ s.kn ∧ s.kn + (s.st.length : Int) ≤ s.ct
  sur : ∀ m, 0 ≤ m → m < s.kn → ∃ x, V n x ∧ ga s.ix x ≠ 0 ∧ x ∉ s.st ∧ ga s.of x = m

/-- What a visit leaves as it was. -/
structure Frm (n : Int) (s s' : KS) : Prop where
  ix : ∀ x, V n x → ga s.ix x ≠ 0 → ga s'.ix x = ga s.ix x
  lo : ∀ x, V n x → ga s.ix x ≠ 0 → ga s'.lo x = ga s.lo x
  st : ∃ t, s'.st = s.st ++ t ∧ ∀ x, x ∈ t → V n x ∧ ga s.ix x = 0
  of : ∀ x, V n x → ga s.ix x ≠ 0 → x ∉ s.st → ga s'.of x = ga s.of x
  ct : s.ct ≤ s'.ct
  kn : s.kn ≤ s'.kn
  nw : ∀ x, V n x → ga s.ix x = 0 → ga s'.ix x ≠ 0 → s.ct < ga s'.ix x

theorem Frm.refl (n : Int) (s : KS) : Frm n s s := ⟨fun _ _ _ => rfl, fun _ _ _ => rfl, ⟨[], by simp, by simp⟩, fun _ _ _ _ => rfl, Int.le_refl _, Int.le_refl _, fun _ _ h h' => absurd h h'⟩
theorem Frm.mem {n : Int} {s s' : KS} (h : Frm n s s') {x : Int} (hx : x ∈ s.st) : x ∈ s'.st := by
  obtain ⟨t, e, _⟩ := h.st
  rw [e]; exact List.mem_append_left _ hx
theorem Frm.back {n : Int} {s s' : KS} (h : Frm n s s') {x : Int} (hv : ga s.ix x ≠ 0) (hx : x ∈ s'.st) : x ∈ s.st := by
  obtain ⟨t, e, ht⟩ := h.st
  rw [e] at hx
  rcases List.mem_append.1 hx with q | q
  · exact q
  · exact absurd (ht x q).2 hv
theorem Frm.nz {n : Int} {s s' : KS} (h : Frm n s s') {x : Int} (hV : V n x) (hv : ga s.ix x ≠ 0) : ga s'.ix x ≠ 0 := by rw [h.ix x hV hv]; exact hv
theorem Frm.trans {n : Int} {s s1 s2 : KS} (h : Frm n s s1) (k : Frm n s1 s2) : Frm n s s2 := by
  refine ⟨fun x hV hx => (k.ix x hV (h.nz hV hx)).trans (h.ix x hV hx), fun x hV hx => (k.lo x hV (h.nz hV hx)).trans (h.lo x hV hx), ?_, fun x hV hx hn => (k.of x hV (h.nz hV hx) (fun q => hn (h.back hx q))).trans (h.of x hV hx hn), by have := h.ct; have := k.ct; omega, by have := h.kn; have := k.kn; omega, fun x hV h0 h2 => by
    by_cases h1 : ga s1.ix x = 0
    · have := k.nw x hV h1 h2; have := h.ct; omega
    · rw [k.ix x hV h1]; exact h.nw x hV h0 h1⟩
  obtain ⟨t, e, ht⟩ := h.st
  obtain ⟨u, e', hu⟩ := k.st
  refine ⟨t ++ u, by rw [e', e, List.append_assoc], fun x hx => ?_⟩
  rcases List.mem_append.1 hx with q | q
  · exact ht x q
  · obtain ⟨q1, q2⟩ := hu x q
    refine ⟨q1, ?_⟩
    by_cases hz : ga s.ix x = 0
    · exact hz
    · exact absurd q2 (h.nz q1 hz)

theorem count_set {l : List Int} {i x : Int} (hi : 0 ≤ i) (hl : i < l.length) (h0 : ga l i = 0) (hx : x ≠ 0) : (l.set i.toNat x).count 0 + 1 = l.count 0 := by
  have hlt : i.toNat < l.length := by omega
  have hg : l[i.toNat] = 0 := by
    unfold ga at h0
    rw [List.getD_eq_getElem?_getD, List.getElem?_eq_getElem hlt] at h0
    exact h0
  have hp : 0 < l.count 0 := List.count_pos_iff.2 (hg ▸ List.getElem_mem hlt)
  have hx' : (x == 0) = false := by simpa using hx
  rw [List.count_set hlt, hg, hx']
  simp
  omega

theorem open_inv {nx : Int → List Int} {n v : Int} {s : KS} {G : Int → Prop} (hI : Inv nx n s G) (hV : V n v) (hw : ga s.ix v = 0) (hG : ∀ g, G g → Reach nx g v) : Inv nx n (openK s v) (fun x => G x ∨ x = v) := by
  have hlv : v < s.ix.length := by rw [hI.lix]; exact hV.2
  have hIX : ∀ x, V n x → ga (openK s v).ix x = if x = v then s.ct + 1 else ga s.ix x := fun x hx => ga_set hV.1 hx.1 hlv
  have hON : ∀ x, V n x → gb (openK s v).on x = if x = v then true else gb s.on x := fun x hx => gb_set hV.1 hx.1 (by rw [hI.lon]; exact hV.2)
  have hST : (openK s v).st = s.st ++ [v] := rfl
  have hne : ∀ x, x ∈ s.st → x ≠ v := fun x hx e => hI.onI x hx (e ▸ hw)
  have hold : ∀ x, x ∈ s.st → ga (openK s v).ix x = ga s.ix x := fun x hx => by rw [hIX x (hI.stV x hx), if_neg (hne x hx)]
  have hvv : ga (openK s v).ix v = s.ct + 1 := by rw [hIX v hV, if_pos rfl]
  have hmem : ∀ x, x ∈ s.st ++ [v] ↔ x ∈ s.st ∨ x = v := fun x => by simp
  have hct := hI.ctb
  refine ⟨?_, ?_, ?_, hI.lof, ?_, ?_, ?_, ?_, ?_, ?_, ?_, ?_, ?_, ?_, ?_, ?_, ?_, ?_, ?_, ?_, ?_, ?_⟩
  · show ((s.ix.set _ _).length : Int) = n; rw [List.length_set]; exact hI.lix
  · show ((s.lo.set _ _).length : Int) = n; rw [List.length_set]; exact hI.llo
  · show ((s.on.set _ _).length : Int) = n; rw [List.length_set]; exact hI.lon
  · show 0 ≤ s.ct + 1; omega
  · show ((s.ix.set v.toNat (s.ct + 1)).count 0 : Int) + (s.ct + 1) = n
    have := count_set (x := s.ct + 1) hV.1 hlv hw (by omega)
    have := hI.wh
    omega
  · intro x hx
    rw [hIX x hx]
    have := hI.ixb x hx
    show _ ∧ _ ≤ s.ct + 1
    split <;> omega
  · intro x y hx hy he hz
    rw [hIX x hx, hIX y hy] at he
    rw [hIX x hx] at hz
    have h1 := hI.ixb x hx
    have h2 := hI.ixb y hy
    by_cases ex : x = v
    · by_cases ey : y = v
      · rw [ex, ey]
      · rw [if_pos ex, if_neg ey] at he; omega
    · by_cases ey : y = v
      · rw [if_neg ex, if_pos ey] at he; omega
      · rw [if_neg ex, if_neg ey] at he
        rw [if_neg ex] at hz
        exact hI.inj x y hx hy he hz
  · intro x hx
    rcases (hmem x).1 hx with q | q
    · exact hI.stV x q
    · rw [q]; exact hV
  · rw [hST, List.pairwise_append]
    refine ⟨hI.stS.imp_of_mem ?_, by simp, ?_⟩
    · intro a b ha hb hab
      rw [hold a ha, hold b hb]; exact hab
    · intro a ha b hb
      rw [List.mem_singleton.1 hb, hold a ha, hvv]
      have := hI.ixb a (hI.stV a ha)
      omega
  · intro x hx
    rw [hST, hmem, hON x hx]
    by_cases e : x = v
    · simp [e]
    · rw [if_neg e, ← hI.stO x hx]; simp [e]
  · intro x hx
    rcases (hmem x).1 hx with q | q
    · rw [hold x q]; exact hI.onI x q
    · rw [q, hvv]; omega
  · rintro g (q | q)
    · rw [hST, hmem]; exact .inl (hI.gr g q)
    · rw [hST, hmem]; exact .inr q
  · intro x hx hz hn y hy
    have e : x ≠ v := fun e => hn (.inr e)
    rw [hIX x hx, if_neg e] at hz
    have hy' := hI.bw x hx hz (fun q => hn (.inl q)) y hy
    have := hI.ixb
    unfold openK
    show ga (s.ix.set v.toNat (s.ct + 1)) y ≠ 0
    by_cases hyv : 0 ≤ y
    · rw [ga_set hV.1 hyv hlv]; split <;> omega
    · have : y.toNat = (0 : Int).toNat := by omega
      have h0 : ga (s.ix.set v.toNat (s.ct + 1)) y = ga (s.ix.set v.toNat (s.ct + 1)) 0 := by unfold ga; rw [this]
      have h1 : ga s.ix y = ga s.ix 0 := by unfold ga; rw [this]
      rw [h0, ga_set hV.1 (Int.le_refl 0) hlv]; rw [h1] at hy'; split <;> omega
  · intro y hy
    rcases (hmem y).1 hy with q | q
    · obtain ⟨g, h1, h2, h3⟩ := hI.up y q
      exact ⟨g, .inl h1, by rw [hold y q, hold g (hI.gr g h1)]; exact h2, h3⟩
    · exact ⟨v, .inr rfl, by rw [q]; exact Int.le_refl _, by rw [q]; exact Reach.refl _ _⟩
  · rintro g hg y hy hle
    rcases (hmem y).1 hy with q | q
    · rcases hg with hg | hg
      · rw [hold y q, hold g (hI.gr g hg)] at hle
        exact hI.dn g hg y q hle
      · rw [hg, hvv, hold y q] at hle
        have := hI.ixb y (hI.stV y q)
        omega
    · rcases hg with hg | hg
      · rw [q]; exact hG g hg
      · rw [q, hg]; exact Reach.refl _ _
  · intro x hx hz hn y hy hys
    have e : x ≠ v := fun e => hn ((hmem x).2 (.inr e))
    have hn' : x ∉ s.st := fun q => hn ((hmem x).2 (.inl q))
    rw [hIX x hx, if_neg e] at hz
    rcases (hmem y).1 hys with q | q
    · exact hI.dc x hx hz hn' y hy q
    · exact hI.bw x hx hz (fun g => hn' (hI.gr x g)) y hy (q ▸ hw)
  · intro x hx hz hn
    have e : x ≠ v := fun e => hn ((hmem x).2 (.inr e))
    rw [hIX x hx, if_neg e] at hz
    exact hI.ofb x hx hz (fun q => hn ((hmem x).2 (.inl q)))
  · intro x y hx hy hzx hzy hnx hny he
    have e : x ≠ v := fun e => hnx ((hmem x).2 (.inr e))
    have e' : y ≠ v := fun e => hny ((hmem y).2 (.inr e))
    rw [hIX x hx, if_neg e] at hzx
    rw [hIX y hy, if_neg e'] at hzy
    exact hI.ofr x y hx hy hzx hzy (fun q => hnx ((hmem x).2 (.inl q))) (fun q => hny ((hmem y).2 (.inl q))) he
  · intro x hx hz hn y hy
    have e : x ≠ v := fun e => hn ((hmem x).2 (.inr e))
    rw [hIX x hx, if_neg e] at hz
    exact hI.ofm x hx hz (fun q => hn ((hmem x).2 (.inl q))) y hy
  · have := hI.knb
    show 0 ≤ s.kn ∧ s.kn + ((s.st ++ [v]).length : Int) ≤ s.ct + 1
    simp
    omega
  · intro m h0 h1
    obtain ⟨x, hx, hz, hn, hm⟩ := hI.sur m h0 h1
    have e : x ≠ v := fun e => hz (e ▸ hw)
    refine ⟨x, hx, by rw [hIX x hx, if_neg e]; exact hz, fun q => ?_, hm⟩
    rcases (hmem x).1 q with q | q
    · exact hn q
    · exact e q

theorem open_frm {nx : Int → List Int} {n v : Int} {s : KS} {G : Int → Prop} (hI : Inv nx n s G) (hV : V n v) (hw : ga s.ix v = 0) : Frm n s (openK s v) := by
  have hlv : v < s.ix.length := by rw [hI.lix]; exact hV.2
  refine ⟨fun x hx hz => ?_, fun x hx hz => ?_, ⟨[v], rfl, fun x hx => ?_⟩, fun _ _ _ _ => rfl, by show s.ct ≤ s.ct + 1; omega, Int.le_refl _, fun x hx hz hz' => ?_⟩
  · rw [show ga (openK s v).ix x = _ from ga_set hV.1 hx.1 hlv, if_neg (fun e => hz (by rw [e]; exact hw))]
  · rw [show ga (openK s v).lo x = _ from ga_set hV.1 hx.1 (by rw [hI.llo]; exact hV.2), if_neg (fun e => hz (by rw [e]; exact hw))]
  · rw [List.mem_singleton.1 hx]; exact ⟨hV, hw⟩
  · rw [show ga (openK s v).ix x = _ from ga_set hV.1 hx.1 hlv] at hz' ⊢
    by_cases e : x = v
    · rw [if_pos e]; omega
    · rw [if_neg e] at hz'; exact absurd hz hz'

/-- In the loop over v's edges: 'ps' have been seen. -/
structure LI (nx : Int → List Int) (n : Int) (s0 : KS) (G : Int → Prop) (v : Int) (ps : List Int) (s : KS) : Prop where
  I : Inv nx n s (fun x => G x ∨ x = v)
  F : Frm n s0 s
  ixv : ga s.ix v = s0.ct + 1
  low : ga s.lo v ≤ s0.ct + 1
  L1 : ∃ y, y ∈ s.st ∧ ga s.ix y = ga s.lo v ∧ Reach nx v y
  L2 : ∀ y, y ∈ s.st → ga s0.ix y = 0 → y ≠ v → ∀ z, z ∈ nx y → z ∈ s0.st → ga s.lo v ≤ ga s0.ix z
  L3 : ∀ z, z ∈ ps → ga s.ix z ≠ 0 ∧ (z ∈ s.st → ga s.lo v ≤ ga s.ix z)

/-- What a visit comes to. -/
structure VO (nx : Int → List Int) (n : Int) (s0 : KS) (G : Int → Prop) (v : Int) (s : KS) : Prop where
  I : Inv nx n s G
  F : Frm n s0 s
  ixv : ga s.ix v = s0.ct + 1
  Q3 : (v ∉ s.st ∧ ga s.lo v = s0.ct + 1) ∨ (v ∈ s.st ∧ ga s.lo v ≤ s0.ct ∧ ∃ y, y ∈ s.st ∧ ga s.ix y = ga s.lo v ∧ Reach nx v y)
  Q4 : ∀ y, y ∈ s.st → ga s0.ix y = 0 → ∀ z, z ∈ nx y → z ∈ s0.st → ga s.lo v ≤ ga s0.ix z

/-- The invariant does not ask of 'lo' but its length. -/
theorem Inv.lo {nx : Int → List Int} {n : Int} {s : KS} {G : Int → Prop} (h : Inv nx n s G) (i : Nat) (x : Int) : Inv nx n { s with lo := s.lo.set i x } G :=
  ⟨h.lix, by rw [List.length_set]; exact h.llo, h.lon, h.lof, h.ctb, h.wh, h.ixb, h.inj, h.stV, h.stS, h.stO, h.onI, h.gr, h.bw, h.up, h.dn, h.dc, h.ofb, h.ofr, h.ofm, h.knb, h.sur⟩

theorem each_ok {nx : Int → List Int} {n v : Int} {s0 : KS} {G : Int → Prop} (hnx : ∀ x, V n x → ∀ y, y ∈ nx x → V n y) (hI0 : Inv nx n s0 G) (hV : V n v) (hw : ga s0.ix v = 0) (hG : ∀ g, G g → Reach nx g v)
    (rec : KS → Int → Option KS)
    (hrec : ∀ s w, Inv nx n s (fun x => G x ∨ x = v) → s0.ct < s.ct → V n w → ga s.ix w = 0 → (∀ g, G g ∨ g = v → Reach nx g w) → ∃ s', rec s w = some s' ∧ VO nx n s (fun x => G x ∨ x = v) w s') :
    ∀ (ws ps : List Int) (s : KS), nx v = ps ++ ws → LI nx n s0 G v ps s → s0.ct < s.ct → ∃ s', eachK n rec v ws s = some s' ∧ LI nx n s0 G v (nx v) s' ∧ s.ct ≤ s'.ct
  | [], ps, s, he, hL, hc => ⟨s, rfl, by rw [he, List.append_nil]; exact hL, Int.le_refl _⟩
  | w :: ws, ps, s, he, hL, hc => by
    have hwn : w ∈ nx v := by rw [he]; simp
    have hVw : V n w := hnx v hV w hwn
    have he' : nx v = (ps ++ [w]) ++ ws := by rw [he]; simp
    have hvs : v ∈ s.st := hL.I.gr v (.inr rfl)
    have hllv : v < s.lo.length := by rw [hL.I.llo]; exact hV.2
    simp only [eachK]
    rw [if_pos (show 0 ≤ w ∧ w < n from hVw)]
    by_cases hz : ga s.ix w = 0
    · -- a new one
      rw [if_pos hz]
      obtain ⟨s2, e2, h2⟩ := hrec s w hL.I hc hVw hz (by
        rintro g (q | q)
        · exact (hG g q).tail hwn
        · rw [q]; exact Reach.one hwn)
      rw [e2, Option.bind_some]
      have hvz : ga s.ix v ≠ 0 := hL.I.onI v hvs
      have hlv2 : ga s2.lo v = ga s.lo v := h2.F.lo v hV hvz
      have hll2 : v < s2.lo.length := by rw [h2.I.llo]; exact hV.2
      have hlo : ∀ x, V n x → ga (s2.lo.set v.toNat (min (ga s2.lo v) (ga s2.lo w))) x = if x = v then min (ga s.lo v) (ga s2.lo w) else ga s2.lo x := fun x hx => by rw [ga_set hV.1 hx.1 hll2, hlv2]
      have hct2 := h2.F.ct
      have hwv : w ≠ v := fun e => hvz (e ▸ hz)
      have hctw : s0.ct + 1 ≤ s.ct := by omega
      have hloV : ga (s2.lo.set v.toNat (min (ga s2.lo v) (ga s2.lo w))) v = min (ga s.lo v) (ga s2.lo w) := by rw [hlo v hV, if_pos rfl]
      have hLI : LI nx n s0 G v (ps ++ [w]) { s2 with lo := s2.lo.set v.toNat (min (ga s2.lo v) (ga s2.lo w)) } := by
        refine ⟨h2.I.lo _ _, ?_, ?_, ?_, ?_, ?_, ?_⟩
        · have F2 := hL.F.trans h2.F
          refine ⟨F2.ix, fun x hx hxz => ?_, F2.st, F2.of, F2.ct, F2.kn, F2.nw⟩
          show ga (s2.lo.set v.toNat _) x = _
          rw [hlo x hx, if_neg (fun e => hxz (by rw [e]; exact hw))]
          exact F2.lo x hx hxz
        · show ga s2.ix v = _
          rw [h2.F.ix v hV hvz]; exact hL.ixv
        · show ga (s2.lo.set v.toNat _) v ≤ _
          rw [hloV]
          have := hL.low
          omega
        · show ∃ y, y ∈ s2.st ∧ ga s2.ix y = ga (s2.lo.set v.toNat _) v ∧ Reach nx v y
          rw [hloV]
          obtain ⟨y, y1, y2, y3⟩ := hL.L1
          by_cases hm : ga s.lo v ≤ ga s2.lo w
          · refine ⟨y, h2.F.mem y1, ?_, y3⟩
            rw [h2.F.ix y (hL.I.stV y y1) (hL.I.onI y y1), y2]; omega
          · rcases h2.Q3 with ⟨_, q⟩ | ⟨_, _, u, u1, u2, u3⟩
            · have := hL.low; omega
            · exact ⟨u, u1, by rw [u2]; omega, Reach.head hwn u3⟩
        · intro y hy hy0 hyv z hz1 hz2
          show ga (s2.lo.set v.toNat _) v ≤ _
          rw [hloV]
          by_cases hys : ga s.ix y = 0
          · have hzs : z ∈ s.st := hL.F.mem hz2
            have := h2.Q4 y hy hys z hz1 hzs
            rw [hL.F.ix z (hI0.stV z hz2) (hI0.onI z hz2)] at this
            omega
          · have := hL.L2 y (h2.F.back hys hy) hy0 hyv z hz1 hz2
            omega
        · intro z hz1
          show ga s2.ix z ≠ 0 ∧ (z ∈ s2.st → ga (s2.lo.set v.toNat _) v ≤ ga s2.ix z)
          rw [hloV]
          rcases List.mem_append.1 hz1 with q | q
          · obtain ⟨q1, q2⟩ := hL.L3 z q
            have hVz : V n z := hnx v hV z (by rw [he]; exact List.mem_append_left _ q)
            refine ⟨h2.F.nz hVz q1, fun hzs => ?_⟩
            have := q2 (h2.F.back q1 hzs)
            rw [h2.F.ix z hVz q1]
            omega
          · rw [List.mem_singleton.1 q, h2.ixv]
            refine ⟨by have := hL.I.ctb; omega, fun hws => ?_⟩
            rcases h2.Q3 with ⟨q, _⟩ | ⟨_, q, _⟩
            · exact absurd hws q
            · omega
      obtain ⟨s', es', hs', hcs'⟩ := each_ok hnx hI0 hV hw hG rec hrec ws (ps ++ [w]) { s2 with lo := s2.lo.set v.toNat (min (ga s2.lo v) (ga s2.lo w)) } he' hLI (by show s0.ct < s2.ct; omega)
      refine ⟨s', es', hs', ?_⟩
      have : s2.ct ≤ s'.ct := hcs'
      omega
    · rw [if_neg hz]
      by_cases ho : gb s.on w = true
      · rw [if_pos ho]
        have hws : w ∈ s.st := (hL.I.stO w hVw).2 ho
        have hloV : ga (s.lo.set v.toNat (min (ga s.lo v) (ga s.ix w))) v = min (ga s.lo v) (ga s.ix w) := by rw [ga_set hV.1 hV.1 hllv, if_pos rfl]
        have hLI : LI nx n s0 G v (ps ++ [w]) { s with lo := s.lo.set v.toNat (min (ga s.lo v) (ga s.ix w)) } := by
          refine ⟨hL.I.lo _ _, ?_, hL.ixv, ?_, ?_, ?_, ?_⟩
          · refine ⟨hL.F.ix, fun x hx hxz => ?_, hL.F.st, hL.F.of, hL.F.ct, hL.F.kn, hL.F.nw⟩
            show ga (s.lo.set v.toNat _) x = _
            rw [ga_set hV.1 hx.1 hllv, if_neg (fun e => hxz (by rw [e]; exact hw))]
            exact hL.F.lo x hx hxz
          · show ga (s.lo.set v.toNat _) v ≤ _
            rw [hloV]; have := hL.low; omega
          · show ∃ y, y ∈ s.st ∧ ga s.ix y = ga (s.lo.set v.toNat _) v ∧ Reach nx v y
            rw [hloV]
            obtain ⟨y, y1, y2, y3⟩ := hL.L1
            by_cases hm : ga s.lo v ≤ ga s.ix w
            · exact ⟨y, y1, by rw [y2]; omega, y3⟩
            · exact ⟨w, hws, by omega, Reach.one hwn⟩
          · intro y hy hy0 hyv z hz1 hz2
            show ga (s.lo.set v.toNat _) v ≤ _
            rw [hloV]
            have := hL.L2 y hy hy0 hyv z hz1 hz2
            omega
          · intro z hz1
            show ga s.ix z ≠ 0 ∧ (z ∈ s.st → ga (s.lo.set v.toNat _) v ≤ ga s.ix z)
            rw [hloV]
            rcases List.mem_append.1 hz1 with q | q
            · obtain ⟨q1, q2⟩ := hL.L3 z q
              exact ⟨q1, fun hzs => by have := q2 hzs; omega⟩
            · rw [List.mem_singleton.1 q]
              exact ⟨hz, fun _ => by omega⟩
        obtain ⟨s', es', hs', hcs'⟩ := each_ok hnx hI0 hV hw hG rec hrec ws (ps ++ [w]) { s with lo := s.lo.set v.toNat (min (ga s.lo v) (ga s.ix w)) } he' hLI hc
        exact ⟨s', es', hs', hcs'⟩
      · rw [if_neg ho]
        have hws : w ∉ s.st := fun q => ho ((hL.I.stO w hVw).1 q)
        obtain ⟨s', es', hs', hcs'⟩ := each_ok hnx hI0 hV hw hG rec hrec ws (ps ++ [w]) s he' ⟨hL.I, hL.F, hL.ixv, hL.low, hL.L1, hL.L2, fun z hz1 => by
          rcases List.mem_append.1 hz1 with q | q
          · exact hL.L3 z q
          · rw [List.mem_singleton.1 q]; exact ⟨hz, fun h => absurd h hws⟩⟩ hc
        exact ⟨s', es', hs', hcs'⟩

theorem pop_ok {n v : Int} (hV : V n v) (old : List Int) : ∀ (k : Nat) (rest : List Int) (s : KS) (w : Int), w ≠ v → s.st = old ++ v :: rest → v ∉ rest → (∀ x, x ∈ rest → V n x) → rest.length + 2 ≤ k → (s.on.length : Int) = n → (s.of.length : Int) = n →
    ∃ s', popK n v k s w = some s' ∧ s'.st = old ∧ s'.ix = s.ix ∧ s'.lo = s.lo ∧ s'.ct = s.ct ∧ s'.kn = s.kn ∧ (s'.on.length : Int) = n ∧ (s'.of.length : Int) = n ∧
      (∀ x, V n x → gb s'.on x = if x = v ∨ x ∈ rest then false else gb s.on x) ∧ (∀ x, V n x → ga s'.of x = if x = v ∨ x ∈ rest then s.kn else ga s.of x)
  | 0, _, _, _, _, _, _, _, hk, _, _ => by omega
  | k + 1, rest, s, w, hwv, he, hvr, hVr, hk, hlo, hlf => by
    have hne : s.st ≠ [] := by rw [he]; simp
    simp only [popK]
    rw [if_neg hwv, if_neg hne]
    rcases List.eq_nil_or_concat rest with hr | ⟨r, u, hr⟩
    · subst hr
      have hl : s.st.getLastD 0 = v := by rw [he]; simp
      have hd : s.st.dropLast = old := by rw [he]; simp
      rw [hl, hd, if_pos (show 0 ≤ v ∧ v < n from hV)]
      obtain ⟨k, rfl⟩ : ∃ m, k = m + 1 := ⟨k - 1, by simp at hk; omega⟩
      refine ⟨{ s with st := old, on := s.on.set v.toNat false, of := s.of.set v.toNat s.kn }, by simp [popK], rfl, rfl, rfl, rfl, rfl, by show ((s.on.set _ _).length : Int) = n; rw [List.length_set]; exact hlo, by show ((s.of.set _ _).length : Int) = n; rw [List.length_set]; exact hlf, fun x hx => ?_, fun x hx => ?_⟩
      · show gb (s.on.set _ _) x = _
        rw [gb_set hV.1 hx.1 (by rw [hlo]; exact hV.2)]; simp
      · show ga (s.of.set _ _) x = _
        rw [ga_set hV.1 hx.1 (by rw [hlf]; exact hV.2)]; simp
    · rw [List.concat_eq_append] at hr
      subst hr
      have hl : s.st.getLastD 0 = u := by rw [he, show old ++ v :: (r ++ [u]) = (old ++ v :: r) ++ [u] by simp, List.getLastD_concat]
      have hd : s.st.dropLast = old ++ v :: r := by
        rw [he, show old ++ v :: (r ++ [u]) = (old ++ v :: r) ++ [u] by simp, List.dropLast_concat]
      have hVu : V n u := hVr u (by simp)
      rw [hl, hd, if_pos (show 0 ≤ u ∧ u < n from hVu)]
      obtain ⟨s', e, h1, h2, h3, h4, h5, h6, h7, h8, h9⟩ := pop_ok hV old k r { s with st := old ++ v :: r, on := s.on.set u.toNat false, of := s.of.set u.toNat s.kn } u
        (fun e => hvr (e ▸ by simp)) rfl (fun q => hvr (List.mem_append_left _ q)) (fun x hx => hVr x (List.mem_append_left _ hx)) (by simp at hk; omega)
        (by show ((s.on.set _ _).length : Int) = n; rw [List.length_set]; exact hlo) (by show ((s.of.set _ _).length : Int) = n; rw [List.length_set]; exact hlf)
      refine ⟨s', e, h1, h2, h3, h4, h5, h6, h7, fun x hx => ?_, fun x hx => ?_⟩
      · rw [h8 x hx]
        show (if x = v ∨ x ∈ r then false else gb (s.on.set _ _) x) = _
        rw [gb_set hVu.1 hx.1 (by rw [hlo]; exact hVu.2)]
        by_cases c1 : x = v ∨ x ∈ r
        · rw [if_pos c1, if_pos (by rcases c1 with c | c; exact .inl c; exact .inr (List.mem_append_left _ c))]
        · by_cases c2 : x = u
          · rw [if_neg c1, if_pos c2, if_pos (.inr (by rw [c2]; simp))]
          · rw [if_neg c1, if_neg c2, if_neg (by
              rintro (c | c)
              · exact c1 (.inl c)
              · rcases List.mem_append.1 c with c | c
                · exact c1 (.inr c)
                · exact c2 (List.mem_singleton.1 c))]
      · rw [h9 x hx]
        show (if x = v ∨ x ∈ r then s.kn else ga (s.of.set _ _) x) = _
        rw [ga_set hVu.1 hx.1 (by rw [hlf]; exact hVu.2)]
        by_cases c1 : x = v ∨ x ∈ r
        · rw [if_pos c1, if_pos (by rcases c1 with c | c; exact .inl c; exact .inr (List.mem_append_left _ c))]
        · by_cases c2 : x = u
          · rw [if_neg c1, if_pos c2, if_pos (.inr (by rw [c2]; simp))]
          · rw [if_neg c1, if_neg c2, if_neg (by
              rintro (c | c)
              · exact c1 (.inl c)
              · rcases List.mem_append.1 c with c | c
                · exact c1 (.inr c)
                · exact c2 (List.mem_singleton.1 c))]

theorem zero_count {l : List Int} {i : Int} (hi : 0 ≤ i) (hl : i < l.length) (h0 : ga l i = 0) : 0 < l.count 0 := by
  have hlt : i.toNat < l.length := by omega
  have hg : l[i.toNat] = 0 := by
    unfold ga at h0
    rw [List.getD_eq_getElem?_getD, List.getElem?_eq_getElem hlt] at h0
    exact h0
  exact List.count_pos_iff.2 (hg ▸ List.getElem_mem hlt)

theorem split_at {nx : Int → List Int} {n v : Int} {s0 s : KS} {G : Int → Prop} (hI0 : Inv nx n s0 G) (hw : ga s0.ix v = 0) (hL : LI nx n s0 G v (nx v) s) :
    ∃ rest, s.st = s0.st ++ v :: rest ∧ v ∉ rest ∧ ∀ x, x ∈ rest → V n x ∧ ga s0.ix x = 0 := by
  obtain ⟨t, e, ht⟩ := hL.F.st
  have hv : v ∈ t := by
    have := hL.I.gr v (.inr rfl)
    rw [e] at this
    rcases List.mem_append.1 this with q | q
    · exact absurd hw (hI0.onI v q)
    · exact q
  have hS := hL.I.stS
  rw [e, List.pairwise_append] at hS
  cases t with
  | nil => simp at hv
  | cons a t =>
    have hp := List.pairwise_cons.1 hS.2.1
    rcases List.mem_cons.1 hv with q | q
    · subst q
      exact ⟨t, e, fun q => by have := hp.1 v q; omega, fun x hx => ht x (List.mem_cons_of_mem _ hx)⟩
    · have h1 := hp.1 v q
      rw [hL.ixv] at h1
      have ha := ht a (List.mem_cons_self ..)
      have := hL.F.nw a ha.1 ha.2 (hL.I.onI a (by rw [e]; simp))
      omega

theorem shut_ok {nx : Int → List Int} {n v : Int} {s0 s : KS} {G : Int → Prop} (hn1 : n ≤ 100000) (hnx : ∀ x, V n x → ∀ y, y ∈ nx x → V n y) (hI0 : Inv nx n s0 G) (hV : V n v) (hw : ga s0.ix v = 0) (hL : LI nx n s0 G v (nx v) s) :
    ∃ s', shutK n v s = some s' ∧ VO nx n s0 G v s' := by
  have hct0 : ∀ z, z ∈ s0.st → ga s0.ix z ≤ s0.ct := fun z hz => (hI0.ixb z (hI0.stV z hz)).2
  have hsame : ∀ z, z ∈ s0.st → ga s.ix z = ga s0.ix z := fun z hz => hL.F.ix z (hI0.stV z hz) (hI0.onI z hz)
  have hvs : v ∈ s.st := hL.I.gr v (.inr rfl)
  -- an edge from a new node on the stack to an old one tells a low number
  have hX : ∀ a, a ∈ s.st → ga s0.ix a = 0 → ∀ b, b ∈ nx a → b ∈ s0.st → ga s.lo v ≤ s0.ct := by
    intro a ha ha0 b hb hbs
    by_cases e : a = v
    · have := (hL.L3 b (e ▸ hb)).2 (hL.F.mem hbs)
      rw [hsame b hbs] at this
      have := hct0 b hbs
      omega
    · have := hL.L2 a ha ha0 e b hb hbs
      have := hct0 b hbs
      omega
  have hbw : ∀ x, V n x → ga s.ix x ≠ 0 → ¬ G x → ∀ y, y ∈ nx x → ga s.ix y ≠ 0 := by
    intro x hx hz hg y hy
    by_cases e : x = v
    · exact (hL.L3 y (e ▸ hy)).1
    · exact hL.I.bw x hx hz (fun q => q.elim hg e) y hy
  have hup0 : ∀ y, y ∈ s.st → ga s.ix y ≤ s0.ct → ∃ g, G g ∧ ga s.ix g ≤ ga s.ix y ∧ Reach nx y g := by
    intro y hy hle
    obtain ⟨g, h1, h2, h3⟩ := hL.I.up y hy
    rcases h1 with h1 | h1
    · exact ⟨g, h1, h2, h3⟩
    · rw [h1, hL.ixv] at h2; omega
  unfold shutK
  by_cases hlow : ga s.lo v = ga s.ix v
  · rw [if_pos hlow]
    rw [hL.ixv] at hlow
    obtain ⟨rest, e, hvr, hrest⟩ := split_at hI0 hw hL
    have hT : ∀ x, (x = v ∨ x ∈ rest) → V n x ∧ ga s0.ix x = 0 ∧ x ∈ s.st := by
      rintro x (q | q)
      · rw [q]; exact ⟨hV, hw, hvs⟩
      · exact ⟨(hrest x q).1, (hrest x q).2, by rw [e]; simp [q]⟩
    have hnotold : ∀ x, (x = v ∨ x ∈ rest) → x ∉ s0.st := fun x q h => hI0.onI x h (hT x q).2.1
    have hdich : ∀ x, x ∈ s.st → x ∉ s0.st → x = v ∨ x ∈ rest := by
      intro x hx hn
      rw [e] at hx
      rcases List.mem_append.1 hx with q | q
      · exact absurd q hn
      · exact List.mem_cons.1 q
    obtain ⟨s', e', h1, h2, h3, h4, h5, h6, h7, h8, h9⟩ := pop_ok hV s0.st (s.st.length + 1) rest s (-1) (by have := hV.1; omega) e hvr (fun x hx => (hrest x hx).1) (by rw [e]; simp) hL.I.lon hL.I.lof
    have hkn0 := hL.I.knb
    have hwh0 := hL.I.wh
    rw [e', Option.bind_some, if_pos (by rw [h5]; omega)]
    -- each of the popped leads to v
    have hback : ∀ y, (y = v ∨ y ∈ rest) → Reach nx y v := by
      intro y hy
      obtain ⟨g, g1, g2, g3⟩ := hL.I.up y (hT y hy).2.2
      rcases g1 with g1 | g1
      · exfalso
        have hg0 := hI0.gr g g1
        obtain ⟨a, b, ha, hb, hn, hr⟩ := g3.cross (P := fun x => x = v ∨ x ∈ rest) hy (fun q => hnotold g q hg0)
        have hVa := (hT a ha).1
        have hVb := hnx a hVa b hb
        have hbz : ga s.ix b ≠ 0 := hbw a hVa (hL.I.onI a (hT a ha).2.2) (fun q => hnotold a ha (hI0.gr a q)) b hb
        by_cases hbs : b ∈ s.st
        · by_cases hb0 : b ∈ s0.st
          · have := hX a (hT a ha).2.2 (hT a ha).2.1 b hb hb0
            omega
          · exact hn (hdich b hbs hb0)
        · have : V n g ∧ ga s.ix g ≠ 0 ∧ g ∉ s.st := hr.closed (P := fun x => V n x ∧ ga s.ix x ≠ 0 ∧ x ∉ s.st) (fun x hx y hy => ⟨hnx x hx.1 y hy, hL.I.bw x hx.1 hx.2.1 (fun q => hx.2.2 (hL.I.gr x q)) y hy, hL.I.dc x hx.1 hx.2.1 hx.2.2 y hy⟩) ⟨hVb, hbz, hbs⟩
          exact this.2.2 (hL.F.mem hg0)
      · rw [g1] at g3; exact g3
    have hfwd : ∀ y, (y = v ∨ y ∈ rest) → Reach nx v y := by
      intro y hy
      refine hL.I.dn v (.inr rfl) y (hT y hy).2.2 ?_
      rw [hL.ixv]
      have := hL.F.nw y (hT y hy).1 (hT y hy).2.1 (hL.I.onI y (hT y hy).2.2)
      omega
    have hnots : ∀ x, x ∉ s0.st → ¬ (x = v ∨ x ∈ rest) → x ∉ s.st := fun x hn hT' q => hT' (hdich x q hn)
    have hdc : ∀ x, V n x → ga s.ix x ≠ 0 → x ∉ s0.st → ∀ y, y ∈ nx x → y ∉ s0.st := by
      intro x hx hz hn y hy hys
      by_cases c : x = v ∨ x ∈ rest
      · have := hX x (hT x c).2.2 (hT x c).2.1 y hy hys
        omega
      · exact hL.I.dc x hx hz (hnots x hn c) y hy (hL.F.mem hys)
    have hkn := hL.I.knb
    have hlen : s.st.length = s0.st.length + 1 + rest.length := by rw [e]; simp; omega
    refine ⟨_, rfl, ⟨?_, ?_, by show ga s'.ix v = _; rw [h2]; exact hL.ixv, .inl ⟨by show v ∉ s'.st; rw [h1]; exact hnotold v (.inl rfl), by show ga s'.lo v = _; rw [h3]; exact hlow⟩, ?_⟩⟩
    · refine ⟨by show ((s'.ix).length : Int) = n; rw [h2]; exact hL.I.lix, by show ((s'.lo).length : Int) = n; rw [h3]; exact hL.I.llo, h6, h7, by show 0 ≤ s'.ct; rw [h4]; exact hL.I.ctb, by show (s'.ix.count 0 : Int) + s'.ct = n; rw [h2, h4]; exact hL.I.wh, ?_, ?_, ?_, ?_, ?_, ?_, ?_, ?_, ?_, ?_, ?_, ?_, ?_, ?_, ?_, ?_⟩
      · show ∀ x, V n x → 0 ≤ ga s'.ix x ∧ ga s'.ix x ≤ s'.ct
        rw [h2, h4]; exact hL.I.ixb
      · show ∀ x y, V n x → V n y → ga s'.ix x = ga s'.ix y → ga s'.ix x ≠ 0 → x = y
        rw [h2]; exact hL.I.inj
      · show ∀ x, x ∈ s'.st → V n x
        rw [h1]; exact hI0.stV
      · show s'.st.Pairwise (fun a b => ga s'.ix a < ga s'.ix b)
        rw [h1, h2]
        have := hL.I.stS
        rw [e, List.pairwise_append] at this
        exact this.1
      · show ∀ x, V n x → (x ∈ s'.st ↔ gb s'.on x = true)
        intro x hx
        rw [h1, h8 x hx]
        by_cases c : x = v ∨ x ∈ rest
        · rw [if_pos c]; simp; exact hnotold x c
        · rw [if_neg c, ← hL.I.stO x hx]
          exact ⟨fun q => hL.F.mem q, fun q => by
            by_cases h : x ∈ s0.st
            · exact h
            · exact absurd (hdich x q h) c⟩
      · show ∀ x, x ∈ s'.st → ga s'.ix x ≠ 0
        rw [h1, h2]; exact fun x hx => hL.I.onI x (hL.F.mem hx)
      · show ∀ g, G g → g ∈ s'.st
        rw [h1]; exact hI0.gr
      · show ∀ x, V n x → ga s'.ix x ≠ 0 → ¬ G x → ∀ y, y ∈ nx x → ga s'.ix y ≠ 0
        rw [h2]; exact hbw
      · show ∀ y, y ∈ s'.st → ∃ g, G g ∧ ga s'.ix g ≤ ga s'.ix y ∧ Reach nx y g
        rw [h1, h2]
        exact fun y hy => hup0 y (hL.F.mem hy) (by rw [hsame y hy]; exact hct0 y hy)
      · show ∀ g, G g → ∀ y, y ∈ s'.st → ga s'.ix g ≤ ga s'.ix y → Reach nx g y
        rw [h1, h2]
        exact fun g hg y hy => hL.I.dn g (.inl hg) y (hL.F.mem hy)
      · show ∀ x, V n x → ga s'.ix x ≠ 0 → x ∉ s'.st → ∀ y, y ∈ nx x → y ∉ s'.st
        rw [h1, h2]; exact hdc
      · show ∀ x, V n x → ga s'.ix x ≠ 0 → x ∉ s'.st → 0 ≤ ga s'.of x ∧ ga s'.of x < s'.kn + 1
        rw [h1, h2, h5]
        intro x hx hz hn
        rw [h9 x hx]
        by_cases c : x = v ∨ x ∈ rest
        · rw [if_pos c]; omega
        · rw [if_neg c]
          have := hL.I.ofb x hx hz (hnots x hn c)
          omega
      · show ∀ x y, V n x → V n y → ga s'.ix x ≠ 0 → ga s'.ix y ≠ 0 → x ∉ s'.st → y ∉ s'.st → ga s'.of x = ga s'.of y → Reach nx x y
        rw [h1, h2]
        intro x y hx hy hzx hzy hnx' hny he
        rw [h9 x hx, h9 y hy] at he
        by_cases cx : x = v ∨ x ∈ rest
        · by_cases cy : y = v ∨ y ∈ rest
          · exact (hback x cx).trans (hfwd y cy)
          · rw [if_pos cx, if_neg cy] at he
            have := hL.I.ofb y hy hzy (hnots y hny cy)
            omega
        · by_cases cy : y = v ∨ y ∈ rest
          · rw [if_neg cx, if_pos cy] at he
            have := hL.I.ofb x hx hzx (hnots x hnx' cx)
            omega
          · rw [if_neg cx, if_neg cy] at he
            exact hL.I.ofr x y hx hy hzx hzy (hnots x hnx' cx) (hnots y hny cy) he
      · show ∀ x, V n x → ga s'.ix x ≠ 0 → x ∉ s'.st → ∀ y, y ∈ nx x → ga s'.of y ≤ ga s'.of x
        rw [h1, h2]
        intro x hx hz hn y hy
        have hVy := hnx x hx y hy
        have hy0 := hdc x hx hz hn y hy
        have hyz : ga s.ix y ≠ 0 := hbw x hx hz (fun q => hn (hI0.gr x q)) y hy
        rw [h9 x hx, h9 y hVy]
        by_cases cx : x = v ∨ x ∈ rest
        · rw [if_pos cx]
          by_cases cy : y = v ∨ y ∈ rest
          · rw [if_pos cy]; exact Int.le_refl _
          · rw [if_neg cy]
            have := hL.I.ofb y hVy hyz (hnots y hy0 cy)
            omega
        · have hxs := hnots x hn cx
          have hys := hL.I.dc x hx hz hxs y hy
          rw [if_neg cx, if_neg (fun q => hys (hT y q).2.2)]
          exact hL.I.ofm x hx hz hxs y hy
      · show 0 ≤ s'.kn + 1 ∧ s'.kn + 1 + (s'.st.length : Int) ≤ s'.ct
        rw [h5, h4, h1]
        have : (s.st.length : Int) = s0.st.length + 1 + rest.length := by rw [hlen]; simp
        omega
      · show ∀ m, 0 ≤ m → m < s'.kn + 1 → ∃ x, V n x ∧ ga s'.ix x ≠ 0 ∧ x ∉ s'.st ∧ ga s'.of x = m
        rw [h1, h2, h5]
        intro m m0 m1
        by_cases c : m = s.kn
        · exact ⟨v, hV, hL.I.onI v hvs, hnotold v (.inl rfl), by rw [h9 v hV, if_pos (.inl rfl), c]⟩
        · obtain ⟨x, hx, hz, hn, hm⟩ := hL.I.sur m m0 (by omega)
          exact ⟨x, hx, hz, fun q => hn (hL.F.mem q), by rw [h9 x hx, if_neg (fun q => hn (hT x q).2.2)]; exact hm⟩
    · refine ⟨fun x hx hz => ?_, fun x hx hz => ?_, ⟨[], by show s'.st = _; rw [h1]; simp, by simp⟩, fun x hx hz hn => ?_, by show s0.ct ≤ s'.ct; rw [h4]; exact hL.F.ct, by show s0.kn ≤ s'.kn + 1; rw [h5]; have := hL.F.kn; omega, fun x hx hz hz' => ?_⟩
      · show ga s'.ix x = _; rw [h2]; exact hL.F.ix x hx hz
      · show ga s'.lo x = _; rw [h3]; exact hL.F.lo x hx hz
      · show ga s'.of x = _
        rw [h9 x hx, if_neg (fun q => hz (hT x q).2.1)]
        exact hL.F.of x hx hz hn
      · have : ga s.ix x ≠ 0 := by rw [← h2]; exact hz'
        show s0.ct < ga s'.ix x
        rw [h2]; exact hL.F.nw x hx hz this
    · show ∀ y, y ∈ s'.st → ga s0.ix y = 0 → ∀ z, z ∈ nx y → z ∈ s0.st → ga s'.lo v ≤ ga s0.ix z
      rw [h1]
      exact fun y hy hz => absurd hz (hI0.onI y hy)
  · rw [if_neg hlow]
    rw [hL.ixv] at hlow
    have hlow' : ga s.lo v ≤ s0.ct := by have := hL.low; omega
    refine ⟨s, rfl, ⟨?_, hL.F, hL.ixv, .inr ⟨hvs, hlow', hL.L1⟩, ?_⟩⟩
    · refine ⟨hL.I.lix, hL.I.llo, hL.I.lon, hL.I.lof, hL.I.ctb, hL.I.wh, hL.I.ixb, hL.I.inj, hL.I.stV, hL.I.stS, hL.I.stO, hL.I.onI, fun g hg => hL.I.gr g (.inl hg), hbw, ?_, fun g hg => hL.I.dn g (.inl hg), hL.I.dc, hL.I.ofb, hL.I.ofr, hL.I.ofm, hL.I.knb, hL.I.sur⟩
      intro y hy
      obtain ⟨g, g1, g2, g3⟩ := hL.I.up y hy
      rcases g1 with g1 | g1
      · exact ⟨g, g1, g2, g3⟩
      · obtain ⟨z, z1, z2, z3⟩ := hL.L1
        obtain ⟨g', k1, k2, k3⟩ := hup0 z z1 (by omega)
        refine ⟨g', k1, ?_, ?_⟩
        · rw [g1, hL.ixv] at g2; omega
        · rw [g1] at g3; exact (g3.trans z3).trans k3
    · intro y hy hy0 z hz hzs
      by_cases c : y = v
      · have := (hL.L3 z (c ▸ hz)).2 (hL.F.mem hzs)
        rw [hsame z hzs] at this
        exact this
      · exact hL.L2 y hy hy0 c z hz hzs

theorem visit_ok {nx : Int → List Int} {n : Int} (hn : n ≤ 100000) (hnx : ∀ x, V n x → ∀ y, y ∈ nx x → V n y) : ∀ (k : Nat) (s : KS) (G : Int → Prop) (v : Int), Inv nx n s G → V n v → ga s.ix v = 0 → (∀ g, G g → Reach nx g v) → n - s.ct ≤ k →
    ∃ s', visitK nx n k s v = some s' ∧ VO nx n s G v s'
  | 0, s, G, v, hI, hV, hw, hG, hk => by
    have := zero_count hV.1 (by rw [hI.lix]; exact hV.2) hw
    have := hI.wh
    omega
  | k + 1, s, G, v, hI, hV, hw, hG, hk => by
    have hc := zero_count hV.1 (by rw [hI.lix]; exact hV.2) hw
    have hwh := hI.wh
    have hkn := hI.knb
    have hlen : (0 : Int) ≤ s.st.length := by omega
    simp only [visitK]
    rw [if_pos ⟨show 0 ≤ v ∧ v < n from hV, ⟨hI.ctb, by omega⟩, ⟨hkn.1, by omega⟩, by omega⟩]
    have hO := open_inv hI hV hw hG
    have hF := open_frm hI hV hw
    have hlv : v < s.ix.length := by rw [hI.lix]; exact hV.2
    have hixv : ga (openK s v).ix v = s.ct + 1 := by rw [show ga (openK s v).ix v = _ from ga_set hV.1 hV.1 hlv, if_pos rfl]
    have hlov : ga (openK s v).lo v = s.ct + 1 := by rw [show ga (openK s v).lo v = _ from ga_set hV.1 hV.1 (by rw [hI.llo]; exact hV.2), if_pos rfl]
    obtain ⟨s1, e1, h1, _⟩ := each_ok hnx hI hV hw hG (visitK nx n k) (fun s' w hI' hlt hVw hzw hGw => visit_ok hn hnx k s' _ w hI' hVw hzw hGw (by omega)) (nx v) [] (openK s v) rfl
      ⟨hO, hF, hixv, by rw [hlov]; exact Int.le_refl _, ⟨v, hO.gr v (.inr rfl), by rw [hixv, hlov], Reach.refl _ _⟩, fun y hy hy0 hyv => by
        have hy' : y ∈ s.st ++ [v] := hy
        rcases List.mem_append.1 hy' with q | q
        · exact absurd hy0 (hI.onI y q)
        · exact absurd (List.mem_singleton.1 q) hyv, fun z hz => by simp at hz⟩ (by show s.ct < s.ct + 1; omega)
    rw [e1, Option.bind_some]
    exact shut_ok hn hnx hI hV hw h1

theorem from_ok {nx : Int → List Int} {n : Int} (hn : n ≤ 100000) (hnx : ∀ x, V n x → ∀ y, y ∈ nx x → V n y) : ∀ (d : Nat) (i : Nat) (s : KS), Inv nx n s (fun _ => False) → (i : Int) + d = n → (∀ x : Int, 0 ≤ x → x < i → ga s.ix x ≠ 0) →
    ∃ s', fromK nx n d i s = some s' ∧ Inv nx n s' (fun _ => False) ∧ ∀ x, V n x → ga s'.ix x ≠ 0
  | 0, i, s, hI, hd, hx => ⟨s, rfl, hI, fun x hV => hx x hV.1 (by have := hV.2; omega)⟩
  | d + 1, i, s, hI, hd, hx => by
    have hV : V n (i : Int) := ⟨by omega, by omega⟩
    simp only [fromK]
    by_cases hz : ga s.ix (i : Int) = 0
    · rw [if_pos hz]
      obtain ⟨s1, e1, h1⟩ := visit_ok hn hnx (n.toNat + 1) s _ i hI hV hz (fun g hg => hg.elim) (by have := hI.ctb; omega)
      rw [e1, Option.bind_some]
      refine from_ok hn hnx d (i + 1) s1 h1.I (by omega) (fun x h0 hx' => ?_)
      by_cases e : x = i
      · rw [e, h1.ixv]; have := hI.ctb; omega
      · exact h1.F.nz ⟨h0, by omega⟩ (hx x h0 (by omega))
    · rw [if_neg hz]
      refine from_ok hn hnx d (i + 1) s hI (by omega) (fun x h0 hx' => ?_)
      by_cases e : x = i
      · rw [e]; exact hz
      · exact hx x h0 (by omega)

theorem ga_rep (m : Nat) (x : Int) : ga (List.replicate m 0) x = 0 := by
  unfold ga
  rw [List.getD_eq_getElem?_getD, List.getElem?_replicate]
  split <;> rfl
theorem gb_rep (m : Nat) (x : Int) : gb (List.replicate m false) x = false := by
  unfold gb
  rw [List.getD_eq_getElem?_getD, List.getElem?_replicate]
  split <;> rfl

/-- What the search finds. -/
structure Knots (nx : Int → List Int) (n : Int) (of : List Int) (kn : Int) : Prop where
  len : (of.length : Int) = n
  kn0 : 0 ≤ kn
  knn : kn ≤ n
  rng : ∀ x, V n x → 0 ≤ ga of x ∧ ga of x < kn
  one : ∀ x y, V n x → V n y → ga of x = ga of y → Reach nx x y
  edge : ∀ x, V n x → ∀ y, y ∈ nx x → ga of y ≤ ga of x
  all : ∀ m, 0 ≤ m → m < kn → ∃ x, V n x ∧ ga of x = m

theorem new_inv (nx : Int → List Int) {n : Int} (h0 : 0 ≤ n) : Inv nx n (newK n) (fun _ => False) := by
  have hl : ((n.toNat : Nat) : Int) = n := by omega
  have hz : ∀ x, ga (newK n).ix x = 0 := fun x => ga_rep _ _
  refine ⟨by simp [newK, hl], by simp [newK, hl], by simp [newK, hl], by simp [newK, hl], Int.le_refl 0, by simp [newK, hl], fun x _ => by rw [hz]; exact ⟨Int.le_refl _, Int.le_refl _⟩, fun x y _ _ _ h => absurd (hz x) h, by simp [newK], by simp [newK], fun x _ => by
    show x ∈ ([] : List Int) ↔ gb (List.replicate n.toNat false) x = true
    rw [gb_rep]; simp, by simp [newK], fun g h => h.elim, fun x _ h => absurd (hz x) h, by simp [newK], fun g h => h.elim, fun x _ h => absurd (hz x) h, fun x _ h => absurd (hz x) h, fun x y _ _ h => absurd (hz x) h, fun x _ h => absurd (hz x) h, ⟨Int.le_refl 0, by simp [newK]⟩, fun m m0 m1 => by
    have : m < (0 : Int) := m1
    omega⟩

theorem knot_ok {nx : Int → List Int} {n : Int} (h0 : 0 ≤ n) (hn : n ≤ 100000) (hnx : ∀ x, V n x → ∀ y, y ∈ nx x → V n y) : ∃ s, knotK nx n = some s ∧ Knots nx n s.of s.kn := by
  obtain ⟨s, e, hI, hv⟩ := from_ok hn hnx n.toNat 0 (newK n) (new_inv nx h0) (by omega) (fun x h h' => by omega)
  have hst : ∀ x, x ∉ s.st := fun x hx => by
    obtain ⟨g, hg, _⟩ := hI.up x hx
    exact hg
  have hwh := hI.wh
  have hkn := hI.knb
  exact ⟨s, e, hI.lof, hkn.1, by omega, fun x hx => hI.ofb x hx (hv x hx) (hst x), fun x y hx hy h => hI.ofr x y hx hy (hv x hx) (hv y hy) (hst x) (hst y) h, fun x hx => hI.ofm x hx (hv x hx) (hst x), fun m m0 m1 => by
    obtain ⟨x, hx, _, _, hm⟩ := hI.sur m m0 m1
    exact ⟨x, hx, hm⟩⟩

theorem Knots.down {nx : Int → List Int} {n kn : Int} {of : List Int} (h : Knots nx n of kn) (hnx : ∀ x, V n x → ∀ y, y ∈ nx x → V n y) {y : Int} : ∀ (k : Nat) (x : Int), V n x → path nx k x y → ga of y ≤ ga of x
  | 0, x, _, e => by cases e; exact Int.le_refl _
  | k + 1, x, hx, ⟨z, hz, hk⟩ => Int.le_trans (h.down hnx k z (hnx x hx z hz) hk) (h.edge x hx z hz)
/-- One number just if each leads to the other. -/
theorem Knots.iff {nx : Int → List Int} {n kn : Int} {of : List Int} (h : Knots nx n of kn) (hnx : ∀ x, V n x → ∀ y, y ∈ nx x → V n y) {x y : Int} (hx : V n x) (hy : V n y) : ga of x = ga of y ↔ Reach nx x y ∧ Reach nx y x :=
  ⟨fun e => ⟨h.one x y hx hy e, h.one y x hy hx e.symm⟩, fun ⟨⟨k, hk⟩, ⟨m, hm⟩⟩ => Int.le_antisymm (h.down hnx m y hy hm) (h.down hnx k x hx hk)⟩
end Go.Proofs.Ytpcaonkahhbgfaa.K
