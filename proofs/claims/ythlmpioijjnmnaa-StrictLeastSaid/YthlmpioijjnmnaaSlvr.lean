/- Rounds of strict proof: which literals are told, and when. -/
import Derived.Test.YthlmpioijjnmnaaSlvD
namespace Go.Proofs.Ythlmpioijjnmnaa.S
set_option linter.unusedVariables false
/-- A theory's strict side. -/
structure Thy where
  n : Nat
  m : Nat
  kd : Int → Int
  hd : Int → Int
  bd : Int → List Int
def Thy.St (T : Thy) (r : Int) : Prop := (0 ≤ r ∧ r < T.m) ∧ T.kd r = 1
def Thy.pl (T : Thy) (F : Int → Prop) : Nat → Int → Prop
  | 0, _ => False
  | k + 1, q => F q ∨ ∃ r, T.St r ∧ T.hd r = q ∧ ∀ b, b ∈ T.bd r → T.pl F k b
def Thy.mi (T : Thy) (F : Int → Prop) : Nat → Int → Prop
  | 0, _ => False
  | k + 1, q => ¬ F q ∧ ∀ r, T.St r → T.hd r = q → ∃ b, b ∈ T.bd r ∧ T.mi F k b
section
variable {T : Thy} {F G : Int → Prop}
theorem pl_succ {k : Nat} : ∀ {q : Int}, T.pl F k q → T.pl F (k + 1) q := by
  induction k with
  | zero => intro q h; exact h.elim
  | succ k ih =>
    rintro q (h | ⟨r, h1, h2, h3⟩)
    · exact .inl h
    · exact .inr ⟨r, h1, h2, fun b hb => ih (h3 b hb)⟩
theorem mi_succ {k : Nat} : ∀ {q : Int}, T.mi F k q → T.mi F (k + 1) q := by
  induction k with
  | zero => intro q h; exact h.elim
  | succ k ih =>
    rintro q ⟨h1, h2⟩
    refine ⟨h1, fun r h3 h4 => ?_⟩
    obtain ⟨b, hb, h5⟩ := h2 r h3 h4
    exact ⟨b, hb, ih h5⟩
theorem pl_le {j k : Nat} (h : j ≤ k) {q : Int} (hp : T.pl F j q) : T.pl F k q := by
  induction k with
  | zero => obtain rfl : j = 0 := by omega
            exact hp
  | succ k ih =>
    by_cases e : j = k + 1
    · exact e ▸ hp
    · exact pl_succ (ih (by omega))
theorem mi_le {j k : Nat} (h : j ≤ k) {q : Int} (hp : T.mi F j q) : T.mi F k q := by
  induction k with
  | zero => obtain rfl : j = 0 := by omega
            exact hp
  | succ k ih =>
    by_cases e : j = k + 1
    · exact e ▸ hp
    · exact mi_succ (ih (by omega))
theorem pl_mi {j : Nat} : ∀ {k : Nat} {q : Int}, T.pl F j q → T.mi F k q → False := by
  induction j with
  | zero => intro k q h _; exact h
  | succ j ih =>
    intro k q h h'
    cases k with
    | zero => exact h'
    | succ k =>
      obtain ⟨h1, h2⟩ := h'
      rcases h with h | ⟨r, h3, h4, h5⟩
      · exact h1 h
      · obtain ⟨b, hb, h6⟩ := h2 r h3 h4
        exact ih (h5 b hb) h6
/-- With more facts: no +D goes, no -D comes. -/
theorem pl_more (h : ∀ q, F q → G q) {k : Nat} : ∀ {q : Int}, T.pl F k q → T.pl G k q := by
  induction k with
  | zero => intro q h; exact h
  | succ k ih =>
    rintro q (h1 | ⟨r, h1, h2, h3⟩)
    · exact .inl (h q h1)
    · exact .inr ⟨r, h1, h2, fun b hb => ih (h3 b hb)⟩
theorem mi_more (h : ∀ q, F q → G q) {k : Nat} : ∀ {q : Int}, T.mi G k q → T.mi F k q := by
  induction k with
  | zero => intro q h; exact h
  | succ k ih =>
    rintro q ⟨h1, h2⟩
    refine ⟨fun hf => h1 (h q hf), fun r h3 h4 => ?_⟩
    obtain ⟨b, hb, h5⟩ := h2 r h3 h4
    exact ⟨b, hb, ih h5⟩
/-- What is told tells the rounds. -/
structure Tells (T : Thy) (F : Int → Prop) (P M : Int → Prop) (H : Int → Int) : Prop where
  one : ∀ q, P q ∨ M q → 1 ≤ H q
  pa : ∀ q, P q → F q ∨ ∃ r, T.St r ∧ T.hd r = q ∧ ∀ b, b ∈ T.bd r → P b ∧ H b < H q
  mi : ∀ q, M q → ¬ F q ∧ ∀ r, T.St r → T.hd r = q → ∃ b, b ∈ T.bd r ∧ M b ∧ H b < H q
  fa : ∀ q, F q → P q ∧ H q ≤ 1
  pc : ∀ r (k : Int), 0 ≤ k → T.St r → (∀ b, b ∈ T.bd r → P b ∧ H b ≤ k) → P (T.hd r) ∧ H (T.hd r) ≤ k + 1
  mc : ∀ (q k : Int), 0 ≤ k → (0 ≤ q ∧ q < T.n) → ¬ F q → (∀ r, T.St r → T.hd r = q → ∃ b, b ∈ T.bd r ∧ M b ∧ H b ≤ k) → M q ∧ H q ≤ k + 1
theorem Tells.pl {P M : Int → Prop} {H : Int → Int} (h : Tells T F P M H) (k : Nat) : ∀ (q : Int), T.pl F k q ↔ P q ∧ H q ≤ k := by
  induction k with
  | zero =>
    intro q
    refine ⟨fun x => x.elim, fun ⟨x, y⟩ => ?_⟩
    have := h.one q (.inl x)
    exact absurd y (by omega)
  | succ k ih =>
    intro q
    constructor
    · rintro (hf | ⟨r, h1, h2, h3⟩)
      · obtain ⟨x, y⟩ := h.fa q hf
        exact ⟨x, by omega⟩
      · obtain ⟨x, y⟩ := h.pc r k (by omega) h1 (fun b hb => (ih b).1 (h3 b hb))
        rw [h2] at x y
        exact ⟨x, by omega⟩
    · rintro ⟨x, y⟩
      rcases h.pa q x with hf | ⟨r, h1, h2, h3⟩
      · exact .inl hf
      · exact .inr ⟨r, h1, h2, fun b hb => (ih b).2 ⟨(h3 b hb).1, by have := (h3 b hb).2; omega⟩⟩
theorem Tells.mi' {P M : Int → Prop} {H : Int → Int} (h : Tells T F P M H) (k : Nat) : ∀ (q : Int), 0 ≤ q → q < T.n → (∀ r, T.St r → ∀ b, b ∈ T.bd r → 0 ≤ b ∧ b < T.n) → (T.mi F k q ↔ M q ∧ H q ≤ k) := by
  induction k with
  | zero =>
    intro q _ _ _
    refine ⟨fun x => x.elim, fun ⟨x, y⟩ => ?_⟩
    have := h.one q (.inr x)
    exact absurd y (by omega)
  | succ k ih =>
    intro q h0 h1 hb
    constructor
    · rintro ⟨h2, h3⟩
      obtain ⟨x, y⟩ := h.mc q k (by omega) ⟨h0, h1⟩ h2 (fun r h4 h5 => by
        obtain ⟨b, h6, h7⟩ := h3 r h4 h5
        obtain ⟨h8, h9⟩ := hb r h4 b h6
        exact ⟨b, h6, (ih b h8 h9 hb).1 h7⟩)
      exact ⟨x, by omega⟩
    · rintro ⟨x, y⟩
      obtain ⟨h2, h3⟩ := h.mi q x
      refine ⟨h2, fun r h4 h5 => ?_⟩
      obtain ⟨b, h6, h7, h10⟩ := h3 r h4 h5
      obtain ⟨h8, h9⟩ := hb r h4 b h6
      exact ⟨b, h6, (ih b h8 h9 hb).2 ⟨h7, by omega⟩⟩
end
end Go.Proofs.Ythlmpioijjnmnaa.S
/- The solver of strict rules, plain: what holds while it works. -/
namespace Go.Proofs.Ythlmpioijjnmnaa.S
open Go.RowKit Go.Proofs.YthlmpioijjnmnaaW.PrintWords Go.Proofs.Ythlmpioijjnmnaa.K Go.Proofs.Ythlmpioijjnmnaa.P
set_option linter.unusedVariables false
set_option linter.unusedSimpArgs false
theorem nodup_len : ∀ (n : Nat) (l : List Int), l.Nodup → (∀ x, x ∈ l → 0 ≤ x ∧ x < n) → l.length ≤ n
  | 0, l, _, h => by
    cases l with
    | nil => simp
    | cons x l => have := h x (by simp); omega
  | n + 1, l, hn, h => by
    by_cases hm : (n : Int) ∈ l
    · have e := List.length_erase_of_mem hm
      have := nodup_len n (l.erase (n : Int)) (hn.erase _) (fun x hx => by
        obtain ⟨h1, h2⟩ := hn.mem_erase_iff.1 hx
        have := h x h2
        omega)
      have := List.length_pos_of_mem hm
      omega
    · have := nodup_len n l hn (fun x hx => by
        have h1 := h x hx
        have : x ≠ n := fun e => hm (e ▸ hx)
        omega)
      omega
def Thy.Rg (T : Thy) (q : Int) : Prop := 0 ≤ q ∧ q < T.n
structure Thy.Ok (T : Thy) : Prop where
  hd : ∀ r, T.St r → T.Rg (T.hd r)
  bd : ∀ r, T.St r → ∀ b, b ∈ T.bd r → T.Rg b
  nd : ∀ r, T.St r → (T.bd r).Nodup
  n4 : T.n ≤ 4096
  m4 : T.m ≤ 4096
theorem Thy.Ok.ln {T : Thy} (h : T.Ok) {r : Int} (hr : T.St r) : (T.bd r).length ≤ 4096 := Nat.le_trans (nodup_len T.n _ (h.nd r hr) (h.bd r hr)) h.n4
/-- The conditions of +D and -D, by what is told with lower heights. -/
def CanP (T : Thy) (Fl : List Int) (s : SV) (q k : Int) : Prop := q ∈ Fl ∧ k = 1 ∨ ∃ r, T.St r ∧ T.hd r = q ∧ ∀ b, b ∈ T.bd r → gb s.plus b = true ∧ ga s.hgt b < k
def CanM (T : Thy) (Fl : List Int) (s : SV) (q k : Int) : Prop := q ∉ Fl ∧ ∀ r, T.St r → T.hd r = q → ∃ b, b ∈ T.bd r ∧ gb s.minus b = true ∧ ga s.hgt b < k
structure Core (T : Thy) (Fl : List Int) (D : Int → Int → Bool) (s : SV) : Prop where
  lfa : s.fact.length = T.n
  lne : s.need.length = T.m
  lde : s.dead.length = T.m
  lle : s.left.length = T.n
  lpl : s.plus.length = T.n
  lmi : s.minus.length = T.n
  lhe : s.hgt.length = T.n
  fact : ∀ q, T.Rg q → (gb s.fact q = true ↔ q ∈ Fl)
  tr : ∀ q, q ∈ s.told → T.Rg q
  tn : s.told.Nodup
  ti : ∀ q, T.Rg q → (q ∈ s.told ↔ gb s.plus q = true ∨ gb s.minus q = true)
  pm : ∀ q, T.Rg q → gb s.plus q = true → gb s.minus q = true → False
  h0 : ∀ q, T.Rg q → q ∉ s.told → ga s.hgt q = 0
  h1 : ∀ q, q ∈ s.told → 1 ≤ ga s.hgt q ∧ ga s.hgt q ≤ s.told.length
  up : s.told.Pairwise (fun a b => ga s.hgt a ≤ ga s.hgt b)
  need : ∀ r, T.St r → ga s.need r = ((T.bd r).countP (fun b => !(gb s.plus b && D b r)) : Nat)
  dead : ∀ r, T.St r → (gb s.dead r = true ↔ ∃ b, b ∈ T.bd r ∧ gb s.minus b = true ∧ D b r = true)
  left : ∀ q, T.Rg q → ga s.left q = ((irange T.m).countP (fun r => decide (T.kd r = 1 ∧ T.hd r = q) && !gb s.dead r) : Nat)
  pa : ∀ q, T.Rg q → gb s.plus q = true → CanP T Fl s q (ga s.hgt q)
  mi : ∀ q, T.Rg q → gb s.minus q = true → CanM T Fl s q (ga s.hgt q)
  dt : ∀ b r, D b r = true → b ∈ s.told
/-- More is told; what was told stays. -/
structure Ext (s s' : SV) : Prop where
  fact : s'.fact = s.fact
  ins : s'.ins = s.ins
  rls : s'.rls = s.rls
  told : ∃ l, s'.told = s.told ++ l
  old : ∀ q, q ∈ s.told → gb s'.plus q = gb s.plus q ∧ gb s'.minus q = gb s.minus q ∧ ga s'.hgt q = ga s.hgt q
theorem Ext.refl (s : SV) : Ext s s := ⟨rfl, rfl, rfl, ⟨[], by simp⟩, fun _ _ => ⟨rfl, rfl, rfl⟩⟩
theorem Ext.mem {s s' : SV} (h : Ext s s') {q : Int} (hq : q ∈ s.told) : q ∈ s'.told := by
  obtain ⟨l, e⟩ := h.told
  rw [e]; exact List.mem_append_left _ hq
theorem Ext.trans {a b c : SV} (h : Ext a b) (g : Ext b c) : Ext a c := by
  refine ⟨g.fact.trans h.fact, g.ins.trans h.ins, g.rls.trans h.rls, ?_, fun q hq => ?_⟩
  · obtain ⟨l, e⟩ := h.told
    obtain ⟨l', e'⟩ := g.told
    exact ⟨l ++ l', by rw [e', e, List.append_assoc]⟩
  · obtain ⟨h1, h2, h3⟩ := h.old q hq
    obtain ⟨g1, g2, g3⟩ := g.old q (h.mem hq)
    exact ⟨g1.trans h1, g2.trans h2, g3.trans h3⟩
section
variable {T : Thy} {Fl : List Int} {D : Int → Int → Bool} {s : SV}
theorem Core.tlen (h : Core T Fl D s) (hT : T.Ok) : s.told.length < 1000000 := by
  have := nodup_len T.n s.told h.tn h.tr
  have := hT.n4
  omega
/-- 'tell': told before, or told now. -/
theorem tell_core (hT : T.Ok) (h : Core T Fl D s) {q k : Int} {p : Bool} (hq : T.Rg q) (hk : 1 ≤ k) (hk2 : k ≤ s.told.length + 1) (hup : ∀ x, x ∈ s.told → ga s.hgt x ≤ k)
    (hc : q ∉ s.told → if p = true then CanP T Fl s q k else CanM T Fl s q k) :
    ∃ s', tellV T.n s q p k = some s' ∧ Core T Fl D s' ∧ Ext s s' ∧ (∀ x, x ∈ s'.told → x ∈ s.told ∨ x = q) ∧ q ∈ s'.told ∧ s'.need = s.need ∧ s'.dead = s.dead ∧ s'.left = s.left ∧ (q ∉ s.told → gb s'.plus q = p ∧ gb s'.minus q = !p ∧ ga s'.hgt q = k) := by
  have hl := h.tlen hT
  by_cases ht : q ∈ s.told
  · refine ⟨s, ?_, h, Ext.refl s, fun x hx => .inl hx, ht, rfl, rfl, rfl, fun x => absurd ht x⟩
    unfold tellV
    rw [if_pos ⟨hq, hl⟩, if_pos ((h.ti q hq).1 ht)]
  · have hnt : ¬ (gb s.plus q = true ∨ gb s.minus q = true) := fun x => ht ((h.ti q hq).2 x)
    have l1 : q < s.plus.length := by rw [h.lpl]; exact hq.2
    have l2 : q < s.minus.length := by rw [h.lmi]; exact hq.2
    have l3 : q < s.hgt.length := by rw [h.lhe]; exact hq.2
    have e1 : ∀ x, T.Rg x → gb (s.plus.set q.toNat p) x = if x = q then p else gb s.plus x := fun x hx => gb_set hq.1 hx.1 l1
    have e2 : ∀ x, T.Rg x → gb (s.minus.set q.toNat (!p)) x = if x = q then !p else gb s.minus x := fun x hx => gb_set hq.1 hx.1 l2
    have e3 : ∀ x, T.Rg x → ga (s.hgt.set q.toNat k) x = if x = q then k else ga s.hgt x := fun x hx => ga_set hq.1 hx.1 l3
    have o : ∀ x, T.Rg x → x ≠ q → gb (s.plus.set q.toNat p) x = gb s.plus x ∧ gb (s.minus.set q.toNat (!p)) x = gb s.minus x ∧ ga (s.hgt.set q.toNat k) x = ga s.hgt x := fun x hx hn => by
      rw [e1 x hx, e2 x hx, e3 x hx, if_neg hn, if_neg hn, if_neg hn]; exact ⟨rfl, rfl, rfl⟩
    have ne : ∀ x, x ∈ s.told → x ≠ q := fun x hx e => ht (e ▸ hx)
    have dn : ∀ r, D q r = false := fun r => by
      cases hD : D q r with
      | false => rfl
      | true => exact absurd (h.dt q r hD) ht
    have tP : ∀ b, T.Rg b → gb s.plus b = true → b ∈ s.told := fun b hb hp => (h.ti b hb).2 (.inl hp)
    have tM : ∀ b, T.Rg b → gb s.minus b = true → b ∈ s.told := fun b hb hp => (h.ti b hb).2 (.inr hp)
    have cp : ∀ x j, CanP T Fl s x j → CanP T Fl { s with plus := s.plus.set q.toNat p, minus := s.minus.set q.toNat (!p), hgt := s.hgt.set q.toNat k, told := s.told ++ [q] } x j := by
      rintro x j (hx | ⟨r, r1, r2, r3⟩)
      · exact .inl hx
      · refine .inr ⟨r, r1, r2, fun b hb => ?_⟩
        obtain ⟨b1, b2⟩ := r3 b hb
        have hr := hT.bd r r1 b hb
        obtain ⟨o1, _, o3⟩ := o b hr (ne b (tP b hr b1))
        exact ⟨o1.trans b1, by show ga (s.hgt.set q.toNat k) b < j; rw [o3]; exact b2⟩
    have cm : ∀ x j, CanM T Fl s x j → CanM T Fl { s with plus := s.plus.set q.toNat p, minus := s.minus.set q.toNat (!p), hgt := s.hgt.set q.toNat k, told := s.told ++ [q] } x j := by
      rintro x j ⟨hx, h2⟩
      refine ⟨hx, fun r r1 r2 => ?_⟩
      obtain ⟨b, hb, b1, b2⟩ := h2 r r1 r2
      have hr := hT.bd r r1 b hb
      obtain ⟨_, o2, o3⟩ := o b hr (ne b (tM b hr b1))
      exact ⟨b, hb, o2.trans b1, by show ga (s.hgt.set q.toNat k) b < j; rw [o3]; exact b2⟩
    refine ⟨{ s with plus := s.plus.set q.toNat p, minus := s.minus.set q.toNat (!p), hgt := s.hgt.set q.toNat k, told := s.told ++ [q] }, ?_, ?_, ⟨rfl, rfl, rfl, ⟨[q], rfl⟩, fun x hx => o x (h.tr x hx) (ne x hx)⟩, ?_, ?_, rfl, rfl, rfl, ?_⟩
    · unfold tellV
      rw [if_pos ⟨hq, hl⟩, if_neg hnt]
    · exact {
        lfa := h.lfa, lne := h.lne, lde := h.lde, lle := h.lle, lpl := by simpa using h.lpl, lmi := by simpa using h.lmi, lhe := by simpa using h.lhe, fact := h.fact,
        tr := fun x hx => by
          rcases List.mem_append.1 hx with hx | hx
          · exact h.tr x hx
          · rw [List.mem_singleton.1 hx]; exact hq
        tn := List.nodup_append.2 ⟨h.tn, by simp, fun a ha b hb e => ht (by rw [← List.mem_singleton.1 hb, ← e]; exact ha)⟩
        ti := fun x hx => by
          show x ∈ s.told ++ [q] ↔ gb (s.plus.set q.toNat p) x = true ∨ gb (s.minus.set q.toNat (!p)) x = true
          by_cases e : x = q
          · subst e
            rw [e1 x hx, e2 x hx, if_pos rfl, if_pos rfl]
            cases p <;> simp
          · obtain ⟨o1, o2, _⟩ := o x hx e
            rw [o1, o2, ← h.ti x hx]
            simp [e]
        pm := fun x hx => by
          show gb (s.plus.set q.toNat p) x = true → gb (s.minus.set q.toNat (!p)) x = true → False
          by_cases e : x = q
          · subst e
            rw [e1 x hx, e2 x hx, if_pos rfl, if_pos rfl]
            cases p <;> simp
          · obtain ⟨o1, o2, _⟩ := o x hx e
            rw [o1, o2]
            exact h.pm x hx
        h0 := fun x hx hn => by
          have : x ≠ q := fun e => hn (List.mem_append_right _ (by simp [e]))
          show ga (s.hgt.set q.toNat k) x = 0
          rw [(o x hx this).2.2]
          exact h.h0 x hx (fun y => hn (List.mem_append_left _ y))
        h1 := fun x hx => by
          show 1 ≤ ga (s.hgt.set q.toNat k) x ∧ ga (s.hgt.set q.toNat k) x ≤ (s.told ++ [q]).length
          rw [List.length_append, List.length_singleton]
          rcases List.mem_append.1 hx with hx | hx
          · rw [(o x (h.tr x hx) (ne x hx)).2.2]
            have := h.h1 x hx
            omega
          · rw [List.mem_singleton.1 hx, e3 q hq, if_pos rfl]; omega
        up := by
          show (s.told ++ [q]).Pairwise (fun a b => ga (s.hgt.set q.toNat k) a ≤ ga (s.hgt.set q.toNat k) b)
          rw [List.pairwise_append]
          refine ⟨h.up.imp_of_mem (fun {a b} ha hb hab => ?_), by simp, fun a ha b hb => ?_⟩
          · rw [(o a (h.tr a ha) (ne a ha)).2.2, (o b (h.tr b hb) (ne b hb)).2.2]; exact hab
          · rw [List.mem_singleton.1 hb, e3 q hq, if_pos rfl, (o a (h.tr a ha) (ne a ha)).2.2]; exact hup a ha
        need := fun r hr => by
          show ga s.need r = _
          rw [h.need r hr]
          congr 1
          refine List.countP_congr (fun b hb => ?_)
          have hbr := hT.bd r hr b hb
          by_cases e : b = q
          · subst e
            rw [dn r]; simp
          · show _ ↔ (!(gb (s.plus.set q.toNat p) b && D b r)) = true
            rw [(o b hbr e).1]
        dead := fun r hr => by
          show gb s.dead r = true ↔ _
          rw [h.dead r hr]
          refine exists_congr (fun b => and_congr_right (fun hb => ?_))
          have hbr := hT.bd r hr b hb
          show _ ↔ gb (s.minus.set q.toNat (!p)) b = true ∧ D b r = true
          by_cases e : b = q
          · subst e
            rw [dn r]; simp
          · rw [(o b hbr e).2.1]
        left := h.left
        pa := fun x hx hp => by
          have hp : gb (s.plus.set q.toNat p) x = true := hp
          show CanP T Fl _ x (ga (s.hgt.set q.toNat k) x)
          by_cases e : x = q
          · subst e
            rw [e3 x hx, if_pos rfl]
            rw [e1 x hx, if_pos rfl] at hp
            have := hc ht
            rw [if_pos hp] at this
            exact cp x k this
          · obtain ⟨o1, _, o3⟩ := o x hx e
            rw [o3]
            rw [o1] at hp
            exact cp x _ (h.pa x hx hp)
        mi := fun x hx hp => by
          have hp : gb (s.minus.set q.toNat (!p)) x = true := hp
          show CanM T Fl _ x (ga (s.hgt.set q.toNat k) x)
          by_cases e : x = q
          · subst e
            rw [e3 x hx, if_pos rfl]
            rw [e2 x hx, if_pos rfl] at hp
            have := hc ht
            rw [if_neg (by cases p <;> simp_all)] at this
            exact cm x k this
          · obtain ⟨_, o2, o3⟩ := o x hx e
            rw [o3]
            rw [o2] at hp
            exact cm x _ (h.mi x hx hp)
        dt := fun b r hD => List.mem_append_left _ (h.dt b r hD) }
    · intro x hx
      rcases List.mem_append.1 hx with hx | hx
      · exact .inl hx
      · exact .inr (List.mem_singleton.1 hx)
    · exact List.mem_append_right _ (by simp)
    · intro _
      show gb (s.plus.set q.toNat p) q = p ∧ gb (s.minus.set q.toNat (!p)) q = (!p) ∧ ga (s.hgt.set q.toNat k) q = k
      rw [e1 q hq, e2 q hq, e3 q hq, if_pos rfl, if_pos rfl, if_pos rfl]
      exact ⟨rfl, rfl, rfl⟩

/-- What follows of what was worked is told. -/
structure Did (T : Thy) (Fl : List Int) (D : Int → Int → Bool) (s : SV) : Prop where
  pc : ∀ (r k : Int), 0 ≤ k → T.St r → (∀ b, b ∈ T.bd r → gb s.plus b = true ∧ D b r = true ∧ ga s.hgt b ≤ k) → gb s.plus (T.hd r) = true ∧ ga s.hgt (T.hd r) ≤ k + 1
  mc : ∀ (q k : Int), 0 ≤ k → T.Rg q → q ∉ Fl → (∀ r, T.St r → T.hd r = q → ∃ b, b ∈ T.bd r ∧ gb s.minus b = true ∧ D b r = true ∧ ga s.hgt b ≤ k) → gb s.minus q = true ∧ ga s.hgt q ≤ k + 1
  fa : ∀ q, T.Rg q → q ∈ Fl → gb s.plus q = true ∧ ga s.hgt q = 1
theorem Did.ext {s' : SV} (hT : T.Ok) (h : Did T Fl D s) (hc : Core T Fl D s) (hx : Ext s s') : Did T Fl D s' := by
  refine ⟨fun r k hk hr hb => ?_, fun q k hk hq hf hb => ?_, fun q hq hf => ?_⟩
  · obtain ⟨h1, h2⟩ := h.pc r k hk hr (fun b hm => by
      obtain ⟨b1, b2, b3⟩ := hb b hm
      obtain ⟨o1, _, o3⟩ := hx.old b (hc.dt b r b2)
      exact ⟨o1 ▸ b1, b2, o3 ▸ b3⟩)
    obtain ⟨o1, _, o3⟩ := hx.old (T.hd r) ((hc.ti _ (hT.hd r hr)).2 (.inl h1))
    exact ⟨o1.trans h1, by rw [o3]; exact h2⟩
  · obtain ⟨h1, h2⟩ := h.mc q k hk hq hf (fun r hr e => by
      obtain ⟨b, hm, b1, b2, b3⟩ := hb r hr e
      obtain ⟨_, o2, o3⟩ := hx.old b (hc.dt b r b2)
      exact ⟨b, hm, o2 ▸ b1, b2, o3 ▸ b3⟩)
    obtain ⟨_, o2, o3⟩ := hx.old q ((hc.ti _ hq).2 (.inr h1))
    exact ⟨o2.trans h1, by rw [o3]; exact h2⟩
  · obtain ⟨h1, h2⟩ := h.fa q hq hf
    obtain ⟨o1, _, o3⟩ := hx.old q ((hc.ti _ hq).2 (.inl h1))
    exact ⟨o1.trans h1, o3.trans h2⟩
theorem countP_flip {f g : Int → Bool} : ∀ {l : List Int} {x : Int}, l.Nodup → x ∈ l → f x = true → g x = false → (∀ y, y ∈ l → y ≠ x → f y = g y) → l.countP f = l.countP g + 1
  | [], x, _, h, _, _, _ => by cases h
  | y :: l, x, hn, hm, hf, hg, he => by
    obtain ⟨h1, h2⟩ := List.nodup_cons.1 hn
    by_cases e : y = x
    · subst e
      rw [List.countP_cons_of_pos hf, List.countP_cons_of_neg (by simp [hg])]
      congr 1
      refine List.countP_congr (fun z hz => ?_)
      rw [he z (List.mem_cons_of_mem _ hz) (fun e => h1 (e ▸ hz))]
    · have hm' : x ∈ l := by rcases List.mem_cons.1 hm with h | h
                             · exact absurd h.symm e
                             · exact h
      have ih := countP_flip h2 hm' hf hg (fun z hz hne => he z (List.mem_cons_of_mem _ hz) hne)
      rw [List.countP_cons, List.countP_cons, ih, he y (List.mem_cons_self ..) e]
      omega
theorem irange_mem {m : Nat} {r : Int} : r ∈ irange m ↔ 0 ≤ r ∧ r < m := by
  unfold irange
  rw [List.mem_map]
  constructor
  · rintro ⟨i, hi, rfl⟩
    rw [List.mem_range] at hi
    omega
  · rintro ⟨h1, h2⟩
    exact ⟨r.toNat, by rw [List.mem_range]; omega, by omega⟩
theorem irange_nodup (m : Nat) : (irange m).Nodup := by
  unfold irange List.Nodup
  rw [List.pairwise_map]
  refine (List.nodup_range (n := m)).imp ?_
  intro a b h e
  exact h (by omega)
theorem countP_zero {f : Int → Bool} {l : List Int} (h : l.countP f = 0) : ∀ x, x ∈ l → f x = false := fun x hx => by
  have := List.countP_eq_zero.1 h x hx
  simpa using this
def more (D : Int → Int → Bool) (p r : Int) : Int → Int → Bool := fun b r' => D b r' || (b == p && r' == r)
theorem more_self (D : Int → Int → Bool) (p r : Int) : more D p r p r = true := by simp [more]
theorem more_old {D : Int → Int → Bool} {p r b r' : Int} (h : D b r' = true) : more D p r b r' = true := by simp [more, h]
theorem more_ne {D : Int → Int → Bool} {p r b r' : Int} (h : r' ≠ r) : more D p r b r' = D b r' := by simp [more, h]
theorem more_nb {D : Int → Int → Bool} {p r b r' : Int} (h : b ≠ p) : more D p r b r' = D b r' := by simp [more, h]
theorem more_or {D : Int → Int → Bool} {p r b r' : Int} (h : more D p r b r' = true) : D b r' = true ∨ (b = p ∧ r' = r) := by simpa [more] using h
/-- One rule behind a literal that was told. -/
theorem after_step (hT : T.Ok) (hc : Core T Fl D s) (hd : Did T Fl D s) {p r H : Int} (hp : p ∈ s.told) (hH : ga s.hgt p = H) (hup : ∀ x, x ∈ s.told → ga s.hgt x ≤ H + 1) (hD : ∀ b r, D b r = true → ga s.hgt b ≤ H)
    (hr : T.St r) (hpr : p ∈ T.bd r) (hn : D p r = false) :
    ∃ s', (∀ rs, afterV T.n T.m T.hd p (r :: rs) s = afterV T.n T.m T.hd p rs s') ∧ Core T Fl (more D p r) s' ∧ Did T Fl (more D p r) s' ∧ Ext s s' ∧ (∀ x, x ∈ s'.told → ga s'.hgt x ≤ H + 1) := by
  have hpR := hc.tr p hp
  have hhR := hT.hd r hr
  have h1 := hc.h1 p hp
  have htl := nodup_len T.n s.told hc.tn hc.tr
  have n4 := hT.n4
  have m4 := hT.m4
  have hnd := hc.need r hr
  have hlf := hc.left _ hhR
  have c1 := List.countP_le_length (p := fun b => !(gb s.plus b && D b r)) (l := T.bd r)
  have c2 := List.countP_le_length (p := fun r' => decide (T.kd r' = 1 ∧ T.hd r' = T.hd r) && !gb s.dead r') (l := irange T.m)
  rw [irange_len] at c2
  have c3 := hT.ln hr
  have hg : ((0 ≤ r ∧ r < T.m) ∧ (0 ≤ T.hd r ∧ T.hd r < T.n)) ∧ sm (ga s.need r) ∧ sm (ga s.left (T.hd r)) ∧ sm (ga s.hgt p) := by
    refine ⟨⟨hr.1, hhR⟩, ?_, ?_, ?_⟩
    · unfold sm; omega
    · unfold sm; omega
    · unfold sm; omega
  have dt' : ∀ b r', more D p r b r' = true → b ∈ s.told := fun b r' h => by
    rcases more_or h with h | ⟨rfl, _⟩
    · exact hc.dt b r' h
    · exact hp
  have hD' : ∀ b r', more D p r b r' = true → ga s.hgt b ≤ H := fun b r' h => by
    rcases more_or h with h | ⟨rfl, _⟩
    · exact hD b r' h
    · omega
  by_cases hpl : gb s.plus p = true
  · have hmi : gb s.minus p = true → False := hc.pm p hpR hpl
    have lr : r < s.need.length := by rw [hc.lne]; exact hr.1.2
    have flip : (T.bd r).countP (fun b => !(gb s.plus b && D b r)) = (T.bd r).countP (fun b => !(gb s.plus b && more D p r b r)) + 1 :=
      countP_flip (hT.nd r hr) hpr (by simp [hn]) (by simp [hpl, more_self]) (fun y _ hy => by rw [more_nb hy])
    have C1 : Core T Fl (more D p r) { s with need := s.need.set r.toNat (ga s.need r - 1) } := { hc with
      lne := by simpa using hc.lne
      need := fun r' hr' => by
        show ga (s.need.set r.toNat (ga s.need r - 1)) r' = _
        rw [ga_set hr.1.1 hr'.1.1 lr]
        by_cases e : r' = r
        · subst e
          rw [if_pos rfl, hnd, flip]
          show ((_ + 1 : Nat) : Int) - 1 = ((T.bd r').countP (fun b => !(gb s.plus b && more D p r' b r')) : Nat)
          omega
        · rw [if_neg e, hc.need r' hr']
          congr 1
          exact List.countP_congr (fun b _ => by rw [more_ne e])
      dead := fun r' hr' => by
        show gb s.dead r' = true ↔ _
        rw [hc.dead r' hr']
        refine exists_congr (fun b => and_congr_right (fun hb => and_congr_right (fun hm => ?_)))
        have : b ≠ p := fun e => hmi (e ▸ hm)
        rw [more_nb this]
      dt := dt' }
    have X1 : Ext s { s with need := s.need.set r.toNat (ga s.need r - 1) } := ⟨rfl, rfl, rfl, ⟨[], by simp⟩, fun _ _ => ⟨rfl, rfl, rfl⟩⟩
    have fin : ∀ s', Ext s s' → (∀ x, x ∈ s'.told → ga s'.hgt x ≤ H + 1) → ((∀ b, b ∈ T.bd r → gb s'.plus b = true ∧ more D p r b r = true) → T.hd r ∈ s'.told ∧ gb s'.plus (T.hd r) = true) → Did T Fl (more D p r) s' := by
      intro s' X hu hw
      have d2 := hd.ext hT hc X
      obtain ⟨o1, o2, o3⟩ := X.old p hp
      refine ⟨fun r' k hk hr' hb => ?_, fun q k hk hq hf hb => ?_, d2.fa⟩
      · by_cases e : r' = r
        · subst e
          obtain ⟨w1, w2⟩ := hw (fun b hm => ⟨(hb b hm).1, (hb b hm).2.1⟩)
          have := (hb p hpr).2.2
          have := hu _ w1
          exact ⟨w2, by omega⟩
        · exact d2.pc r' k hk hr' (fun b hm => by
            obtain ⟨b1, b2, b3⟩ := hb b hm
            rw [more_ne e] at b2
            exact ⟨b1, b2, b3⟩)
      · exact d2.mc q k hk hq hf (fun r' hr' e => by
          obtain ⟨b, hm, b1, b2, b3⟩ := hb r' hr' e
          have : b ≠ p := fun x => by
            subst x
            rw [o2] at b1
            exact hmi b1
          rw [more_nb this] at b2
          exact ⟨b, hm, b1, b2, b3⟩)
    by_cases hz : ga s.need r - 1 = 0
    · have hall : ∀ b, b ∈ T.bd r → gb s.plus b = true ∧ more D p r b r = true := fun b hb => by
        have := countP_zero (show (T.bd r).countP (fun b => !(gb s.plus b && more D p r b r)) = 0 by omega) b hb
        simpa using this
      obtain ⟨s2, t1, C2, X2, t2, t3, _, _, _, t4⟩ := tell_core (p := true) hT C1 (q := T.hd r) (k := H + 1) hhR (by omega) (by show H + 1 ≤ ((s.told.length : Nat) : Int) + 1; omega) hup (fun _ => by
        rw [if_pos rfl]
        exact .inr ⟨r, hr, rfl, fun b hb => ⟨(hall b hb).1, by have := hD' b r (hall b hb).2; show ga s.hgt b < H + 1; omega⟩⟩)
      refine ⟨s2, fun rs => ?_, C2, ?_, X1.trans X2, ?_⟩
      · simp only [afterV]
        rw [if_pos hg, if_pos hpl, if_pos hz, hH, t1]
        rfl
      · refine fin s2 (X1.trans X2) ?_ ?_
        · intro x hx
          by_cases ho : x ∈ s.told
          · rw [((X1.trans X2).old x ho).2.2]; exact hup x ho
          · rcases t2 x hx with h | rfl
            · exact absurd h ho
            · rw [(t4 ho).2.2]; omega
        · intro hb
          refine ⟨t3, ?_⟩
          rcases (C2.ti _ hhR).1 t3 with h | h
          · exact h
          · obtain ⟨_, h2⟩ := C2.mi _ hhR h
            obtain ⟨b, hb1, hb2, _⟩ := h2 r hr rfl
            exact (C2.pm b (hT.bd r hr b hb1) (hb b hb1).1 hb2).elim
      · intro x hx
        by_cases ho : x ∈ s.told
        · rw [((X1.trans X2).old x ho).2.2]; exact hup x ho
        · rcases t2 x hx with h | rfl
          · exact absurd h ho
          · rw [(t4 ho).2.2]; omega
    · refine ⟨_, fun rs => ?_, C1, fin _ X1 hup (fun hb => ?_), X1, hup⟩
      · simp only [afterV]
        rw [if_pos hg, if_pos hpl, if_neg hz]
      · have : (T.bd r).countP (fun b => !(gb s.plus b && more D p r b r)) = 0 := by
          rw [List.countP_eq_zero]
          intro b hbm
          have := hb b hbm
          simp [show gb s.plus b = true from this.1, this.2]
        omega
  · have hmi : gb s.minus p = true := by
      rcases (hc.ti p hpR).1 hp with h | h
      · exact absurd h hpl
      · exact h
    have needD : ∀ r', T.St r' → ga s.need r' = ((T.bd r').countP (fun b => !(gb s.plus b && more D p r b r')) : Nat) := fun r' hr' => by
      rw [hc.need r' hr']
      congr 1
      refine List.countP_congr (fun b _ => ?_)
      by_cases e : b = p
      · subst e; simp [Bool.eq_false_iff.2 hpl]
      · rw [more_nb e]
    have finp : ∀ s', Ext s s' → ∀ (r' k : Int), 0 ≤ k → T.St r' → (∀ b, b ∈ T.bd r' → gb s'.plus b = true ∧ more D p r b r' = true ∧ ga s'.hgt b ≤ k) → gb s'.plus (T.hd r') = true ∧ ga s'.hgt (T.hd r') ≤ k + 1 := by
      intro s' X r' k hk hr' hb
      refine (hd.ext hT hc X).pc r' k hk hr' (fun b hm => ?_)
      obtain ⟨b1, b2, b3⟩ := hb b hm
      refine ⟨b1, ?_, b3⟩
      rw [more_nb (fun e => ?_)] at b2
      · exact b2
      · subst e
        rw [(X.old b hp).1] at b1
        exact hpl b1
    by_cases hdd : gb s.dead r = true
    · obtain ⟨b0, hb0, m0, d0⟩ := (hc.dead r hr).1 hdd
      refine ⟨s, fun rs => ?_, { hc with need := needD, dead := fun r' hr' => ?_, dt := dt' }, ⟨finp s (Ext.refl s), fun q k hk hq hf hb => ?_, hd.fa⟩, Ext.refl s, hup⟩
      · simp only [afterV]
        rw [if_pos hg, if_neg hpl, if_pos hdd]
      · by_cases e : r' = r
        · subst e
          exact ⟨fun _ => ⟨b0, hb0, m0, more_old d0⟩, fun _ => hdd⟩
        · rw [hc.dead r' hr']
          refine exists_congr (fun b => and_congr_right (fun _ => and_congr_right (fun _ => ?_)))
          rw [more_ne e]
      · refine hd.mc q k hk hq hf (fun r' hr' e => ?_)
        obtain ⟨b, hm, b1, b2, b3⟩ := hb r' hr' e
        rcases more_or b2 with h | ⟨rfl, rfl⟩
        · exact ⟨b, hm, b1, h, b3⟩
        · exact ⟨b0, hb0, m0, d0, by have := hD b0 r' d0; omega⟩
    · have ld : r < s.dead.length := by rw [hc.lde]; exact hr.1.2
      have ll : T.hd r < s.left.length := by rw [hc.lle]; exact hhR.2
      have ed : ∀ r', 0 ≤ r' → gb (s.dead.set r.toNat true) r' = if r' = r then true else gb s.dead r' := fun r' h => gb_set hr.1.1 h ld
      have flip : (irange T.m).countP (fun r' => decide (T.kd r' = 1 ∧ T.hd r' = T.hd r) && !gb s.dead r') = (irange T.m).countP (fun r' => decide (T.kd r' = 1 ∧ T.hd r' = T.hd r) && !gb (s.dead.set r.toNat true) r') + 1 :=
        countP_flip (irange_nodup _) (irange_mem.2 hr.1) (by simp [hr.2, Bool.eq_false_iff.2 hdd]) (by rw [ed r hr.1.1, if_pos rfl]; simp) (fun y hy hne => by rw [ed y (irange_mem.1 hy).1, if_neg hne])
      have C1 : Core T Fl (more D p r) { s with dead := s.dead.set r.toNat true, left := s.left.set (T.hd r).toNat (ga s.left (T.hd r) - 1) } := { hc with
        lde := by simpa using hc.lde
        lle := by simpa using hc.lle
        need := needD
        dead := fun r' hr' => by
          show gb (s.dead.set r.toNat true) r' = true ↔ ∃ b, b ∈ T.bd r' ∧ gb s.minus b = true ∧ more D p r b r' = true
          rw [ed r' hr'.1.1]
          by_cases e : r' = r
          · subst e
            rw [if_pos rfl]
            exact ⟨fun _ => ⟨p, hpr, hmi, more_self _ _ _⟩, fun _ => rfl⟩
          · rw [if_neg e, hc.dead r' hr']
            refine exists_congr (fun b => and_congr_right (fun _ => and_congr_right (fun _ => ?_)))
            rw [more_ne e]
        left := fun q hq => by
          show ga (s.left.set (T.hd r).toNat (ga s.left (T.hd r) - 1)) q = ((irange T.m).countP (fun r' => decide (T.kd r' = 1 ∧ T.hd r' = q) && !gb (s.dead.set r.toNat true) r') : Nat)
          rw [ga_set hhR.1 hq.1 ll]
          by_cases e : q = T.hd r
          · subst e
            rw [if_pos rfl, hlf, flip]
            omega
          · rw [if_neg e, hc.left q hq]
            congr 1
            refine List.countP_congr (fun r' hr' => ?_)
            rw [ed r' (irange_mem.1 hr').1]
            by_cases e' : r' = r
            · subst e'
              have : ¬ T.hd r' = q := fun h => e h.symm
              simp [this]
            · rw [if_neg e']
        dt := dt' }
      have X1 : Ext s { s with dead := s.dead.set r.toNat true, left := s.left.set (T.hd r).toNat (ga s.left (T.hd r) - 1) } := ⟨rfl, rfl, rfl, ⟨[], by simp⟩, fun _ _ => ⟨rfl, rfl, rfl⟩⟩
      have fin : ∀ s', Ext s s' → (∀ x, x ∈ s'.told → ga s'.hgt x ≤ H + 1) → (T.hd r ∉ Fl → (∀ r', T.St r' → T.hd r' = T.hd r → gb (s.dead.set r.toNat true) r' = true) → T.hd r ∈ s'.told ∧ gb s'.minus (T.hd r) = true) → Did T Fl (more D p r) s' := by
        intro s' X hu hw
        have d2 := hd.ext hT hc X
        obtain ⟨o1, o2, o3⟩ := X.old p hp
        refine ⟨finp s' X, fun q k hk hq hf hb => ?_, d2.fa⟩
        by_cases e : q = T.hd r
        · subst e
          obtain ⟨w1, w2⟩ := hw hf (fun r' hr' e' => by
            obtain ⟨b, hm, b1, b2, b3⟩ := hb r' hr' e'
            rw [(X.old b (dt' b r' b2)).2.1] at b1
            exact (C1.dead r' hr').2 ⟨b, hm, b1, b2⟩)
          obtain ⟨b, hm, b1, b2, b3⟩ := hb r hr rfl
          rcases more_or b2 with h | ⟨rfl, _⟩
          · rw [(X.old b (hc.dt b r h)).2.1] at b1
            exact absurd ((hc.dead r hr).2 ⟨b, hm, b1, h⟩) hdd
          · have := hu _ w1
            exact ⟨w2, by omega⟩
        · exact d2.mc q k hk hq hf (fun r' hr' e' => by
            obtain ⟨b, hm, b1, b2, b3⟩ := hb r' hr' e'
            rw [more_ne (fun x => e (by rw [← e', x]))] at b2
            exact ⟨b, hm, b1, b2, b3⟩)
      have alld : ∀ (hz : ga s.left (T.hd r) - 1 = 0), ∀ r', T.St r' → T.hd r' = T.hd r → gb (s.dead.set r.toNat true) r' = true := fun hz r' hr' e => by
        have := countP_zero (show (irange T.m).countP (fun r' => decide (T.kd r' = 1 ∧ T.hd r' = T.hd r) && !gb (s.dead.set r.toNat true) r') = 0 by omega) r' (irange_mem.2 hr'.1)
        simpa [hr'.2, e] using this
      by_cases hz : ga s.left (T.hd r) - 1 = 0 ∧ gb s.fact (T.hd r) = false
      · have hnf : T.hd r ∉ Fl := fun h => by
          have := (hc.fact _ hhR).2 h
          rw [hz.2] at this
          cases this
        obtain ⟨s2, t1, C2, X2, t2, t3, _, _, _, t4⟩ := tell_core (p := false) hT C1 (q := T.hd r) (k := H + 1) hhR (by omega) (by show H + 1 ≤ ((s.told.length : Nat) : Int) + 1; omega) hup (fun _ => by
          rw [if_neg (by simp)]
          refine ⟨hnf, fun r' hr' e => ?_⟩
          obtain ⟨b, hm, b1, b2⟩ := (C1.dead r' hr').1 (alld hz.1 r' hr' e)
          exact ⟨b, hm, b1, by have := hD' b r' b2; show ga s.hgt b < H + 1; omega⟩)
        have hu2 : ∀ x, x ∈ s2.told → ga s2.hgt x ≤ H + 1 := by
          intro x hx
          by_cases ho : x ∈ s.told
          · rw [((X1.trans X2).old x ho).2.2]; exact hup x ho
          · rcases t2 x hx with h | rfl
            · exact absurd h ho
            · rw [(t4 ho).2.2]; omega
        refine ⟨s2, fun rs => ?_, C2, fin s2 (X1.trans X2) hu2 (fun _ hall => ⟨t3, ?_⟩), X1.trans X2, hu2⟩
        · simp only [afterV]
          rw [if_pos hg, if_neg hpl, if_neg hdd, if_pos hz, hH, t1]
          rfl
        · rcases (C2.ti _ hhR).1 t3 with h | h
          · rcases C2.pa _ hhR h with ⟨h1, _⟩ | ⟨r', h1, h2, h3⟩
            · exact absurd h1 hnf
            · obtain ⟨b, hm, b1, b2⟩ := (C1.dead r' h1).1 (hall r' h1 h2)
              have b1 : gb s.minus b = true := b1
              rw [← ((X1.trans X2).old b (dt' b r' b2)).2.1] at b1
              exact (C2.pm b (hT.bd r' h1 b hm) (h3 b hm).1 b1).elim
          · exact h
      · refine ⟨_, fun rs => ?_, C1, fin _ X1 hup (fun hf hall => ?_), X1, hup⟩
        · simp only [afterV]
          rw [if_pos hg, if_neg hpl, if_neg hdd, if_neg hz]
        · refine absurd ⟨?_, ?_⟩ hz
          · have : (irange T.m).countP (fun r' => decide (T.kd r' = 1 ∧ T.hd r' = T.hd r) && !gb (s.dead.set r.toNat true) r') = 0 := by
              rw [List.countP_eq_zero]
              intro r' hr'
              by_cases e : T.kd r' = 1 ∧ T.hd r' = T.hd r
              · rw [hall r' ⟨irange_mem.1 hr', e.1⟩ e.2]; simp
              · simp [e]
            omega
          · refine Bool.eq_false_iff.2 (fun h => hf ((hc.fact _ hhR).1 h))
end
end Go.Proofs.Ythlmpioijjnmnaa.S
/- The solver of strict rules, plain: all its work. -/
namespace Go.Proofs.Ythlmpioijjnmnaa.S
open Go.RowKit Go.Proofs.YthlmpioijjnmnaaW.PrintWords Go.Proofs.Ythlmpioijjnmnaa.K Go.Proofs.Ythlmpioijjnmnaa.P
set_option linter.unusedVariables false
set_option linter.unusedSimpArgs false
section
variable {T : Thy} {Fl : List Int} {D : Int → Int → Bool} {s : SV}
def mores (D : Int → Int → Bool) (p : Int) : List Int → Int → Int → Bool
  | [] => D
  | r :: rs => mores (more D p r) p rs
theorem mores_iff {p b r' : Int} : ∀ {rs : List Int} {D : Int → Int → Bool}, mores D p rs b r' = true ↔ D b r' = true ∨ (b = p ∧ r' ∈ rs)
  | [], D => by simp [mores]
  | r :: rs, D => by
    show mores (more D p r) p rs b r' = true ↔ _
    rw [mores_iff]
    simp only [more, Bool.or_eq_true, Bool.and_eq_true, beq_iff_eq, List.mem_cons]
    constructor
    · rintro ((h | ⟨h1, h2⟩) | ⟨h1, h2⟩)
      · exact .inl h
      · exact .inr ⟨h1, .inl h2⟩
      · exact .inr ⟨h1, .inr h2⟩
    · rintro (h | ⟨h1, h2 | h2⟩)
      · exact .inl (.inl h)
      · exact .inl (.inr ⟨h1, h2⟩)
      · exact .inr ⟨h1, h2⟩
theorem after_all (hT : T.Ok) {p H : Int} : ∀ (rs : List Int) (D : Int → Int → Bool) (s : SV), Core T Fl D s → Did T Fl D s → p ∈ s.told → ga s.hgt p = H → (∀ x, x ∈ s.told → ga s.hgt x ≤ H + 1) → (∀ b r, D b r = true → ga s.hgt b ≤ H) → rs.Nodup →
    (∀ r, r ∈ rs → T.St r ∧ p ∈ T.bd r ∧ D p r = false) →
    ∃ s', afterV T.n T.m T.hd p rs s = some s' ∧ Core T Fl (mores D p rs) s' ∧ Did T Fl (mores D p rs) s' ∧ Ext s s' ∧ (∀ x, x ∈ s'.told → ga s'.hgt x ≤ H + 1)
  | [], D, s, hc, hd, hp, hH, hup, hD, hn, hr => ⟨s, rfl, hc, hd, Ext.refl s, hup⟩
  | r :: rs, D, s, hc, hd, hp, hH, hup, hD, hn, hr => by
    obtain ⟨h1, h2, h3⟩ := hr r (List.mem_cons_self ..)
    obtain ⟨n1, n2⟩ := List.nodup_cons.1 hn
    obtain ⟨s1, a1, C1, D1, X1, u1⟩ := after_step hT hc hd hp hH hup hD h1 h2 h3
    have hv : ∀ x, x ∈ s.told → ga s1.hgt x = ga s.hgt x := fun x hx => (X1.old x hx).2.2
    obtain ⟨s2, a2, C2, D2, X2, u2⟩ := after_all hT rs (more D p r) s1 C1 D1 (X1.mem hp) (by rw [hv p hp, hH]) u1 (fun b r' h => by
      rcases more_or h with h | ⟨rfl, _⟩
      · rw [hv b (hc.dt b r' h)]; exact hD b r' h
      · rw [hv b hp]; omega) n2 (fun r' hr' => by
        obtain ⟨q1, q2, q3⟩ := hr r' (List.mem_cons_of_mem _ hr')
        refine ⟨q1, q2, ?_⟩
        have hne : r' ≠ r := fun e => n1 (e ▸ hr')
        rw [more_ne hne]; exact q3)
    exact ⟨s2, (a1 rs).trans a2, C2, D2, X1.trans X2, u2⟩
/-- What stays while the work is done. -/
structure Stat (T : Thy) (s : SV) : Prop where
  li : s.ins.length = T.n
  lr : s.rls.length = T.n
  inn : ∀ b, T.Rg b → (s.ins.getD b.toNat []).Nodup
  ins : ∀ b, T.Rg b → ∀ r, r ∈ s.ins.getD b.toNat [] ↔ T.St r ∧ b ∈ T.bd r
  rls : ∀ q, T.Rg q → s.rls.getD q.toNat [] = (irange T.m).filter (fun r => decide (T.kd r = 1 ∧ T.hd r = q))
theorem Stat.ext {s' : SV} (h : Stat T s) (X : Ext s s') : Stat T s' := by
  obtain ⟨h1, h2, h3, h4, h5⟩ := h
  refine ⟨?_, ?_, ?_, ?_, ?_⟩ <;> (first | rw [X.ins] | rw [X.rls]) <;> assumption
/-- So many are worked. -/
def dn (T : Thy) (i : Nat) (s : SV) : Int → Int → Bool := fun b r => (s.told.take i).contains b && (decide (0 ≤ r ∧ r < T.m) && decide (T.kd r = 1) && (T.bd r).contains b)
theorem dn_iff {i : Nat} {b r : Int} : dn T i s b r = true ↔ b ∈ s.told.take i ∧ T.St r ∧ b ∈ T.bd r := by
  simp only [dn, Bool.and_eq_true, List.contains_iff_mem, decide_eq_true_eq]
  unfold Thy.St
  constructor
  · rintro ⟨h1, ⟨h2, h3⟩, h4⟩; exact ⟨h1, ⟨h2, h3⟩, h4⟩
  · rintro ⟨h1, ⟨h2, h3⟩, h4⟩; exact ⟨h1, ⟨h2, h3⟩, h4⟩
theorem wave_ok (hT : T.Ok) : ∀ (f i : Nat) (s : SV), T.n ≤ f + i → i ≤ s.told.length → Core T Fl (dn T i s) s → Did T Fl (dn T i s) s → Stat T s → (∀ x, x ∈ s.told → ∀ y, y ∈ s.told.drop i → ga s.hgt x ≤ ga s.hgt y + 1) →
    ∃ s', waveV T.n T.m T.hd f i s = some s' ∧ Core T Fl (dn T s'.told.length s') s' ∧ Did T Fl (dn T s'.told.length s') s' ∧ Ext s s' := by
  intro f
  induction f with
  | zero =>
    intro i s hf hi hc hd _ _
    have := nodup_len T.n s.told hc.tn hc.tr
    have e : i = s.told.length := by omega
    subst e
    exact ⟨s, by unfold waveV; rw [if_neg (by omega)], hc, hd, Ext.refl s⟩
  | succ f ih =>
    intro i s hf hi hc hd hs hup
    by_cases hlt : i < s.told.length
    · have hp : rd s.told i = s.told[i] := by simp [rd, List.getD_eq_getElem?_getD, List.getElem?_eq_getElem hlt]
      have hm : s.told[i] ∈ s.told := List.getElem_mem hlt
      have hR := hc.tr _ hm
      have hdr : s.told.drop i = s.told[i] :: s.told.drop (i + 1) := List.drop_eq_getElem_cons hlt
      have htk : s.told.take (i + 1) = s.told.take i ++ [s.told[i]] := by rw [List.take_succ_eq_append_getElem hlt]
      have hsp : s.told = s.told.take i ++ (s.told[i] :: s.told.drop (i + 1)) := by rw [← hdr, List.take_append_drop]
      have hnd := hc.tn
      rw [hsp] at hnd
      have hnt : s.told[i] ∉ s.told.take i := fun h => (List.nodup_append.1 hnd).2.2 _ h _ (List.mem_cons_self ..) rfl
      have hpw := hc.up
      rw [hsp, List.pairwise_append] at hpw
      obtain ⟨s1, a1, C1, D1, X1, u1⟩ := after_all hT (p := s.told[i]) (H := ga s.hgt s.told[i]) (s.ins.getD (s.told[i]).toNat []) (dn T i s) s hc hd hm rfl
        (fun x hx => hup x hx _ (by rw [hdr]; exact List.mem_cons_self ..)) (fun b r h => hpw.2.2 b (dn_iff.1 h).1 _ (List.mem_cons_self ..)) (hs.inn _ hR)
        (fun r hr => by
          obtain ⟨r1, r2⟩ := (hs.ins _ hR r).1 hr
          refine ⟨r1, r2, Bool.eq_false_iff.2 (fun h => hnt (dn_iff.1 h).1)⟩)
      obtain ⟨l, el⟩ := X1.told
      have htk' : s1.told.take (i + 1) = s.told.take i ++ [s.told[i]] := by rw [el, List.take_append_of_le_length (by omega), htk]
      have eD : mores (dn T i s) s.told[i] (s.ins.getD (s.told[i]).toNat []) = dn T (i + 1) s1 := by
        funext b r
        rw [Bool.eq_iff_iff, mores_iff, dn_iff, dn_iff, htk', List.mem_append, List.mem_singleton, hs.ins _ hR]
        constructor
        · rintro (⟨h1, h2, h3⟩ | ⟨rfl, h2, h3⟩)
          · exact ⟨.inl h1, h2, h3⟩
          · exact ⟨.inr rfl, h2, h3⟩
        · rintro ⟨h1 | rfl, h2, h3⟩
          · exact .inl ⟨h1, h2, h3⟩
          · exact .inr ⟨rfl, h2, h3⟩
      rw [eD] at C1 D1
      have hl1 : i + 1 ≤ s1.told.length := by rw [el, List.length_append]; omega
      obtain ⟨s2, a2, C2, D2, X2⟩ := ih (i + 1) s1 (by omega) hl1 C1 D1 (hs.ext X1) (fun x hx y hy => by
        have h1 := u1 x hx
        have hy' : ga s.hgt s.told[i] ≤ ga s1.hgt y := by
          have hpw := C1.up
          rw [← List.take_append_drop (i + 1) s1.told, htk', List.pairwise_append] at hpw
          have := hpw.2.2 s.told[i] (List.mem_append_right _ (by simp)) y hy
          rw [(X1.old _ hm).2.2] at this
          exact this
        omega)
      refine ⟨s2, ?_, C2, D2, X1.trans X2⟩
      unfold waveV
      rw [if_pos hlt]
      unfold stepV
      rw [hp, if_pos (show 0 ≤ s.told[i] ∧ s.told[i] < (T.n : Int) from hR), a1]
      exact a2
    · have e : i = s.told.length := by omega
      subst e
      exact ⟨s, by unfold waveV; rw [if_neg (by omega)], hc, hd, Ext.refl s⟩
end
/-- What a solved solver is. -/
structure Solved (T : Thy) (Fl : List Int) (s : SV) : Prop where
  tells : Tells T (fun q => q ∈ Fl) (fun q => T.Rg q ∧ gb s.plus q = true) (fun q => T.Rg q ∧ gb s.minus q = true) (fun q => ga s.hgt q)
  stat : Stat T s
  lfa : s.fact.length = T.n
  lde : s.dead.length = T.m
  lpl : s.plus.length = T.n
  lmi : s.minus.length = T.n
  lhe : s.hgt.length = T.n
  fact : ∀ q, T.Rg q → (gb s.fact q = true ↔ q ∈ Fl)
  dead : ∀ r, T.St r → (gb s.dead r = true ↔ ∃ b, b ∈ T.bd r ∧ gb s.minus b = true)
  zero : ∀ q, T.Rg q → gb s.plus q = false → gb s.minus q = false → ga s.hgt q = 0
theorem solved_of {T : Thy} {Fl : List Int} {s : SV} (hT : T.Ok) (hF : ∀ q, q ∈ Fl → T.Rg q) (hc : Core T Fl (dn T s.told.length s) s) (hd : Did T Fl (dn T s.told.length s) s) (hs : Stat T s) : Solved T Fl s := by
  have dnT : ∀ b r, T.St r → b ∈ T.bd r → b ∈ s.told → dn T s.told.length s b r = true := fun b r h1 h2 h3 => dn_iff.2 ⟨by rw [List.take_length]; exact h3, h1, h2⟩
  have hT1 : ∀ q, T.Rg q → gb s.plus q = true → q ∈ s.told := fun q hq h => (hc.ti q hq).2 (.inl h)
  have hT2 : ∀ q, T.Rg q → gb s.minus q = true → q ∈ s.told := fun q hq h => (hc.ti q hq).2 (.inr h)
  refine ⟨⟨?_, ?_, ?_, ?_, ?_, ?_⟩, hs, hc.lfa, hc.lde, hc.lpl, hc.lmi, hc.lhe, hc.fact, ?_, ?_⟩
  · rintro q (⟨h1, h2⟩ | ⟨h1, h2⟩)
    · exact (hc.h1 q (hT1 q h1 h2)).1
    · exact (hc.h1 q (hT2 q h1 h2)).1
  · rintro q ⟨h1, h2⟩
    rcases hc.pa q h1 h2 with ⟨h3, _⟩ | ⟨r, h3, h4, h5⟩
    · exact .inl h3
    · exact .inr ⟨r, h3, h4, fun b hb => ⟨⟨hT.bd r h3 b hb, (h5 b hb).1⟩, (h5 b hb).2⟩⟩
  · rintro q ⟨h1, h2⟩
    obtain ⟨h3, h4⟩ := hc.mi q h1 h2
    refine ⟨h3, fun r h5 h6 => ?_⟩
    obtain ⟨b, b1, b2, b3⟩ := h4 r h5 h6
    exact ⟨b, b1, ⟨hT.bd r h5 b b1, b2⟩, b3⟩
  · intro q h
    obtain ⟨h1, h2⟩ := hd.fa q (hF q h) h
    exact ⟨⟨hF q h, h1⟩, by omega⟩
  · intro r k hk hr hb
    obtain ⟨h1, h2⟩ := hd.pc r k hk hr (fun b hm => by
      obtain ⟨⟨b1, b2⟩, b3⟩ := hb b hm
      exact ⟨b2, dnT b r hr hm (hT1 b b1 b2), b3⟩)
    exact ⟨⟨hT.hd r hr, h1⟩, h2⟩
  · intro q k hk hq hf hb
    obtain ⟨h1, h2⟩ := hd.mc q k hk hq hf (fun r hr e => by
      obtain ⟨b, hm, ⟨b1, b2⟩, b3⟩ := hb r hr e
      exact ⟨b, hm, b2, dnT b r hr hm (hT2 b b1 b2), b3⟩)
    exact ⟨⟨hq, h1⟩, h2⟩
  · intro r hr
    rw [hc.dead r hr]
    refine exists_congr (fun b => and_congr_right (fun hb => ⟨fun h => h.1, fun h => ⟨h, dnT b r hr hb (hT2 b (hT.bd r hr b hb) h)⟩⟩))
  · intro q hq h1 h2
    exact hc.h0 q hq (fun h => by
      rcases (hc.ti q hq).1 h with h | h
      · rw [h1] at h; cases h
      · rw [h2] at h; cases h)
end Go.Proofs.Ythlmpioijjnmnaa.S
/- The solver of strict rules, plain: how it is made; solved. -/
namespace Go.Proofs.Ythlmpioijjnmnaa.S
open Go.RowKit Go.Proofs.YthlmpioijjnmnaaW.PrintWords Go.Proofs.Ythlmpioijjnmnaa.K Go.Proofs.Ythlmpioijjnmnaa.P
set_option linter.unusedVariables false
set_option linter.unusedSimpArgs false
theorem gb_rep (n : Nat) (q : Int) : gb (List.replicate n false) q = false := by
  unfold gb
  rw [List.getD_eq_getElem?_getD, List.getElem?_replicate]
  split <;> rfl
theorem ga_rep (n : Nat) (q : Int) : ga (List.replicate n 0) q = 0 := by
  unfold ga
  rw [List.getD_eq_getElem?_getD, List.getElem?_replicate]
  split <;> rfl
theorem row_rep (n : Nat) (q : Nat) : (List.replicate n ([] : List Int)).getD q [] = [] := by
  rw [List.getD_eq_getElem?_getD, List.getElem?_replicate]
  split <;> rfl
theorem row_set {l : List (List Int)} {i j : Int} {x : List Int} (hi : 0 ≤ i) (hj : 0 ≤ j) (hl : i < l.length) : (l.set i.toNat x).getD j.toNat [] = if j = i then x else l.getD j.toNat [] := by
  by_cases h : j = i
  · subst h
    rw [if_pos rfl, List.getD_eq_getElem?_getD, List.getElem?_set, if_pos rfl, if_pos (by omega)]; rfl
  · rw [if_neg h, List.getD_eq_getElem?_getD, List.getElem?_set, if_neg (by omega), ← List.getD_eq_getElem?_getD]
/-- The first j rules alone. -/
def Thy.fst (T : Thy) (j : Nat) : Thy := { T with kd := fun r => if r < j then T.kd r else 0 }
theorem fst_st {T : Thy} {j : Nat} {r : Int} : (T.fst j).St r ↔ T.St r ∧ r < j := by
  unfold Thy.St
  show _ ∧ (if r < j then T.kd r else 0) = 1 ↔ _
  by_cases h : r < j
  · rw [if_pos h]; exact ⟨fun ⟨a, b⟩ => ⟨⟨a, b⟩, h⟩, fun ⟨⟨a, b⟩, _⟩ => ⟨a, b⟩⟩
  · rw [if_neg h]; exact ⟨fun ⟨a, b⟩ => absurd b (by omega), fun ⟨_, b⟩ => absurd b h⟩
theorem Thy.Ok.fst {T : Thy} (h : T.Ok) (j : Nat) : (T.fst j).Ok :=
  ⟨fun r hr => h.hd r (fst_st.1 hr).1, fun r hr => h.bd r (fst_st.1 hr).1, fun r hr => h.nd r (fst_st.1 hr).1, h.n4, h.m4⟩
def no : Int → Int → Bool := fun _ _ => false
/-- While the solver is made. -/
structure Ini (T : Thy) (Fl : List Int) (s : SV) : Prop where
  core : Core T Fl no s
  nom : ∀ q, T.Rg q → gb s.minus q = false
  nod : ∀ r, gb s.dead r = false
  one : ∀ q, q ∈ s.told → ga s.hgt q = 1
  fa : ∀ q, q ∈ Fl → gb s.plus q = true
  emp : ∀ r, T.St r → T.bd r = [] → T.hd r ∈ s.told
  stat : Stat T s
section
variable {T : Thy} {Fl : List Int} {s : SV}
theorem ini_zero (T : Thy) : Ini (T.fst 0) [] (zeroV T.n T.m) := by
  have nst : ∀ r, ¬ (T.fst 0).St r := fun r h => by
    have h1 := fst_st.1 h
    have h2 := h1.1.1.1
    have h3 := h1.2
    omega
  have nk : ∀ q r, (decide ((T.fst 0).kd r = 1 ∧ T.hd r = q)) = true → 0 ≤ r → False := fun q r h h0 => by
    have := (of_decide_eq_true h).1
    have : (if r < ((0 : Nat) : Int) then T.kd r else 0) = 1 := this
    rw [if_neg (by omega)] at this
    omega
  refine ⟨{
    lfa := by simp [zeroV, Thy.fst], lne := by simp [zeroV, Thy.fst], lde := by simp [zeroV, Thy.fst], lle := by simp [zeroV, Thy.fst], lpl := by simp [zeroV, Thy.fst], lmi := by simp [zeroV, Thy.fst], lhe := by simp [zeroV, Thy.fst],
    fact := fun q _ => by show gb (List.replicate T.n false) q = true ↔ _; rw [gb_rep]; simp
    tr := fun q h => by cases h
    tn := List.nodup_nil
    ti := fun q _ => by show q ∈ [] ↔ gb (List.replicate T.n false) q = true ∨ gb (List.replicate T.n false) q = true; rw [gb_rep]; simp
    pm := fun q _ h => by have : gb (List.replicate T.n false) q = true := h; rw [gb_rep] at this; cases this
    h0 := fun q _ _ => ga_rep T.n q
    h1 := fun q h => by cases h
    up := List.Pairwise.nil
    need := fun r h => (nst r h).elim
    dead := fun r h => (nst r h).elim
    left := fun q hq => by
      show ga (List.replicate T.n 0) q = _
      rw [ga_rep]
      have : (irange (T.fst 0).m).countP (fun r => decide ((T.fst 0).kd r = 1 ∧ (T.fst 0).hd r = q) && !gb (zeroV T.n T.m).dead r) = 0 := by
        rw [List.countP_eq_zero]
        intro r hr h
        rw [Bool.and_eq_true] at h
        exact nk q r h.1 (irange_mem.1 hr).1
      rw [this]; rfl
    pa := fun q _ h => by have : gb (List.replicate T.n false) q = true := h; rw [gb_rep] at this; cases this
    mi := fun q _ h => by have : gb (List.replicate T.n false) q = true := h; rw [gb_rep] at this; cases this
    dt := fun b r h => by cases h }, fun q _ => gb_rep T.n q, fun r => gb_rep T.m r, fun q h => (by cases h), fun q h => (by cases h), fun r h => (nst r h).elim, ?_⟩
  refine ⟨by simp [zeroV, Thy.fst], by simp [zeroV, Thy.fst], fun b _ => by show ((List.replicate T.n ([] : List Int)).getD b.toNat []).Nodup; rw [row_rep]; exact List.nodup_nil, fun b _ r => ?_, fun q _ => ?_⟩
  · show r ∈ (List.replicate T.n ([] : List Int)).getD b.toNat [] ↔ _
    rw [row_rep]
    exact ⟨fun h => (by cases h), fun h => (nst r h.1).elim⟩
  · show (List.replicate T.n ([] : List Int)).getD q.toNat [] = _
    rw [row_rep]
    symm
    rw [List.filter_eq_nil_iff]
    intro r hr h
    exact nk q r h (irange_mem.1 hr).1
theorem Ini.tell (hT : T.Ok) (h : Core T Fl no s) (nom : ∀ q, T.Rg q → gb s.minus q = false) (nod : ∀ r, gb s.dead r = false) (one : ∀ q, q ∈ s.told → ga s.hgt q = 1) (hs : Stat T s) {q : Int} (hq : T.Rg q) (hc : q ∉ s.told → CanP T Fl s q 1)
    (fa : ∀ x, x ∈ Fl → x ≠ q → gb s.plus x = true) (hF : ∀ x, x ∈ Fl → T.Rg x) (emp : ∀ r, T.St r → T.bd r = [] → T.hd r ≠ q → T.hd r ∈ s.told) : ∃ s', tellV T.n s q true 1 = some s' ∧ Ini T Fl s' := by
  obtain ⟨s', t1, C, X, t2, t3, _, td, _, t4⟩ := tell_core (p := true) (k := 1) hT h hq (by omega) (by omega) (fun x hx => by rw [one x hx]; omega) (fun hn => by rw [if_pos rfl]; exact hc hn)
  have nm : ∀ x, T.Rg x → gb s'.minus x = false := fun x hx => by
    cases e : gb s'.minus x with
    | false => rfl
    | true =>
      have hm := (C.ti x hx).2 (.inr e)
      by_cases ho : x ∈ s.told
      · rw [(X.old x ho).2.1, nom x hx] at e; cases e
      · rcases t2 x hm with h1 | rfl
        · exact absurd h1 ho
        · rw [(t4 ho).2.1] at e; cases e
  have pl : ∀ x, T.Rg x → x ∈ s'.told → gb s'.plus x = true := fun x hx hm => by
    rcases (C.ti x hx).1 hm with h1 | h1
    · exact h1
    · rw [nm x hx] at h1; cases h1
  refine ⟨s', t1, C, nm, fun r => by rw [td]; exact nod r, fun x hx => ?_, fun x hx => ?_, fun r hr hb => ?_, hs.ext X⟩
  · by_cases ho : x ∈ s.told
    · rw [(X.old x ho).2.2]; exact one x ho
    · rcases t2 x hx with h1 | rfl
      · exact absurd h1 ho
      · exact (t4 ho).2.2
  · by_cases e : x = q
    · subst e; exact pl x hq t3
    · have := (h.ti x (hF x hx)).2 (.inl (fa x hx e))
      exact pl x (hF x hx) (X.mem this)
  · by_cases e : T.hd r = q
    · rw [e]; exact t3
    · exact X.mem (emp r hr hb e)
theorem facts_ok (hT : T.Ok) (nst : ∀ r, ¬ T.St r) : ∀ (qs Fl : List Int) (s : SV), Ini T Fl s → (∀ q, q ∈ Fl → T.Rg q) → (∀ q, q ∈ qs → T.Rg q) → ∃ s', factsV T.n qs s = some s' ∧ Ini T (Fl ++ qs) s'
  | [], Fl, s, h, _, _ => ⟨s, rfl, by rw [List.append_nil]; exact h⟩
  | q :: qs, Fl, s, h, hF, hq => by
    have hR := hq q (List.mem_cons_self ..)
    have lf : q < s.fact.length := by rw [h.core.lfa]; exact hR.2
    have hF' : ∀ x, x ∈ Fl ++ [q] → T.Rg x := fun x hx => by
      rcases List.mem_append.1 hx with hx | hx
      · exact hF x hx
      · rw [List.mem_singleton.1 hx]; exact hR
    have C1 : Core T (Fl ++ [q]) no { s with fact := s.fact.set q.toNat true } := { h.core with
      lfa := by simpa using h.core.lfa
      fact := fun x hx => by
        show gb (s.fact.set q.toNat true) x = true ↔ _
        rw [gb_set hR.1 hx.1 lf, List.mem_append, List.mem_singleton, ← h.core.fact x hx]
        by_cases e : x = q <;> simp [e]
      pa := fun x hx hp => by
        rcases h.core.pa x hx hp with ⟨h1, h2⟩ | ⟨r, h1, _⟩
        · exact .inl ⟨List.mem_append_left _ h1, h2⟩
        · exact (nst r h1).elim
      mi := fun x hx hm => by
        have hm : gb s.minus x = true := hm
        rw [h.nom x hx] at hm; cases hm }
    obtain ⟨s1, t1, I1⟩ := Ini.tell hT C1 h.nom h.nod h.one ⟨h.stat.li, h.stat.lr, h.stat.inn, h.stat.ins, h.stat.rls⟩ hR (fun _ => .inl ⟨List.mem_append_right _ (by simp), rfl⟩)
      (fun x hx hne => by
        rcases List.mem_append.1 hx with hx | hx
        · exact h.fa x hx
        · exact absurd (List.mem_singleton.1 hx) hne) hF' (fun r hr => (nst r hr).elim)
    obtain ⟨s2, f2, I2⟩ := facts_ok hT nst qs (Fl ++ [q]) s1 I1 hF' (fun x hx => hq x (List.mem_cons_of_mem _ hx))
    refine ⟨s2, ?_, by rw [List.append_assoc] at I2; exact I2⟩
    unfold factsV
    rw [if_pos (show 0 ≤ q ∧ q < (T.n : Int) from hR), t1]
    exact f2
theorem insV_ok {n : Nat} {r : Int} : ∀ (bs : List Int) (s : SV), s.ins.length = n → bs.Nodup → (∀ b, b ∈ bs → 0 ≤ b ∧ b < n) → (∀ b, b ∈ bs → (s.ins.getD b.toNat []).length < 1000000) →
    ∃ I, insV n r bs s = some { s with ins := I } ∧ I.length = n ∧ ∀ q : Int, 0 ≤ q → q < n → I.getD q.toNat [] = if q ∈ bs then s.ins.getD q.toNat [] ++ [r] else s.ins.getD q.toNat []
  | [], s, hl, _, _, _ => ⟨s.ins, rfl, hl, fun q _ _ => by simp⟩
  | b :: bs, s, hl, hn, hb, hr => by
    obtain ⟨n1, n2⟩ := List.nodup_cons.1 hn
    have hR := hb b (List.mem_cons_self ..)
    have lb : b < s.ins.length := by rw [hl]; exact hR.2
    have rs : ∀ q : Int, 0 ≤ q → (s.ins.set b.toNat (s.ins.getD b.toNat [] ++ [r])).getD q.toNat [] = if q = b then s.ins.getD b.toNat [] ++ [r] else s.ins.getD q.toNat [] := fun q hq => row_set hR.1 hq lb
    obtain ⟨I, e, l, g⟩ := insV_ok bs { s with ins := s.ins.set b.toNat (s.ins.getD b.toNat [] ++ [r]) } (by simpa using hl) n2 (fun x hx => hb x (List.mem_cons_of_mem _ hx)) (fun x hx => by
      show ((s.ins.set b.toNat (s.ins.getD b.toNat [] ++ [r])).getD x.toNat []).length < 1000000
      have hne : x ≠ b := fun e => n1 (e ▸ hx)
      rw [rs x (hb x (List.mem_cons_of_mem _ hx)).1, if_neg hne]
      exact hr x (List.mem_cons_of_mem _ hx))
    refine ⟨I, ?_, l, fun q h0 h1 => ?_⟩
    · unfold insV
      rw [if_pos ⟨hR, hr b (List.mem_cons_self ..)⟩, e]
    · rw [g q h0 h1]
      show (if q ∈ bs then (s.ins.set b.toNat (s.ins.getD b.toNat [] ++ [r])).getD q.toNat [] ++ [r] else (s.ins.set b.toNat (s.ins.getD b.toNat [] ++ [r])).getD q.toNat []) = _
      rw [rs q h0]
      by_cases e1 : q = b
      · subst e1
        rw [if_neg n1, if_pos rfl, if_pos (List.mem_cons_self ..)]
      · rw [if_neg e1]
        by_cases e2 : q ∈ bs
        · rw [if_pos e2, if_pos (List.mem_cons_of_mem _ e2)]
        · rw [if_neg e2, if_neg (by simp [e1, e2])]
theorem irange_split {m j : Nat} (h : j < m) : ∃ l, irange m = irange j ++ (j : Int) :: l ∧ ∀ r, r ∈ l → (j : Int) < r := by
  refine ⟨(irange m).drop (j + 1), ?_, fun r hr => ?_⟩
  · rw [← irange_drop h]
    have : irange j = (irange m).take j := by
      unfold irange
      rw [← List.map_take, List.take_range, Nat.min_eq_left (by omega)]
    rw [this, List.take_append_drop]
  · obtain ⟨i, hi, e⟩ := List.getElem_of_mem hr
    rw [List.getElem_drop] at e
    simp [irange] at e
    omega
theorem fst_kd {j : Nat} {r : Int} : (T.fst j).kd r = if r < j then T.kd r else 0 := rfl
theorem kd_cnt {j : Nat} (hj : j < T.m) (q : Int) (f : Int → Bool) :
    (irange T.m).countP (fun r => decide ((T.fst (j + 1)).kd r = 1 ∧ T.hd r = q) && f r) = (irange T.m).countP (fun r => decide ((T.fst j).kd r = 1 ∧ T.hd r = q) && f r) + if T.kd j = 1 ∧ T.hd j = q ∧ f j = true then 1 else 0 := by
  have off : ∀ r : Int, r ≠ j → (T.fst (j + 1)).kd r = (T.fst j).kd r := fun r hne => by
    rw [fst_kd, fst_kd]
    by_cases h : r < (j : Int)
    · rw [if_pos h, if_pos (by omega)]
    · rw [if_neg h, if_neg (by omega)]
  have oj : (T.fst (j + 1)).kd j = T.kd j := by rw [fst_kd, if_pos (by omega)]
  have oj0 : (T.fst j).kd j = 0 := by rw [fst_kd, if_neg (by omega)]
  by_cases h : T.kd j = 1 ∧ T.hd j = q ∧ f j = true
  · rw [if_pos h]
    exact countP_flip (irange_nodup _) (irange_mem.2 ⟨by omega, by omega⟩ : (j : Int) ∈ irange T.m) (by rw [oj]; simp [h]) (by rw [oj0]; simp) (fun y _ hy => by rw [off y hy])
  · rw [if_neg h, Nat.add_zero]
    refine List.countP_congr (fun r _ => ?_)
    by_cases e : r = j
    · subst e
      rw [oj, oj0]
      simp only [Bool.and_eq_true, decide_eq_true_eq]
      exact ⟨fun ⟨⟨a, b⟩, c⟩ => absurd ⟨a, b, c⟩ h, fun ⟨⟨a, _⟩, _⟩ => absurd a (by omega)⟩
    · rw [off r e]
theorem kd_fil {j : Nat} (hj : j < T.m) (q : Int) :
    (irange T.m).filter (fun r => decide ((T.fst (j + 1)).kd r = 1 ∧ T.hd r = q)) = (irange T.m).filter (fun r => decide ((T.fst j).kd r = 1 ∧ T.hd r = q)) ++ if T.kd j = 1 ∧ T.hd j = q then [(j : Int)] else [] := by
  obtain ⟨l, e, hl⟩ := irange_split hj
  have z : ∀ i : Nat, i ≤ j + 1 → l.filter (fun r => decide ((T.fst i).kd r = 1 ∧ T.hd r = q)) = [] := fun i hi => by
    rw [List.filter_eq_nil_iff]
    intro r hr h
    have := (of_decide_eq_true h).1
    rw [fst_kd, if_neg (by have := hl r hr; omega)] at this
    omega
  have k1 : (T.fst (j + 1)).kd j = T.kd j := by rw [fst_kd, if_pos (by omega)]
  have k2 : (T.fst j).kd j = 0 := by rw [fst_kd, if_neg (by omega)]
  have s : (irange j).filter (fun r => decide ((T.fst (j + 1)).kd r = 1 ∧ T.hd r = q)) = (irange j).filter (fun r => decide ((T.fst j).kd r = 1 ∧ T.hd r = q)) := by
    refine List.filter_congr (fun r hr => ?_)
    have := (irange_mem.1 hr).2
    rw [fst_kd, fst_kd, if_pos (by omega), if_pos (by omega)]
  rw [e, List.filter_append, List.filter_append, List.filter_cons, List.filter_cons, z _ (Nat.le_refl _), z _ (Nat.le_succ _), s, k1, k2]
  by_cases h : T.kd j = 1 ∧ T.hd j = q
  · rw [if_pos (by rw [decide_eq_true_eq]; exact h), if_neg (by simp), if_pos h, List.append_nil]
  · rw [if_neg (by rw [decide_eq_true_eq]; exact h), if_neg (by simp), if_neg h, List.append_nil, List.append_nil]
theorem fst_succ {j : Nat} {r : Int} : (T.fst (j + 1)).St r ↔ (T.fst j).St r ∨ (r = j ∧ T.St r) := by
  rw [fst_st, fst_st]
  constructor
  · rintro ⟨h1, h2⟩
    by_cases e : r = j
    · exact .inr ⟨e, h1⟩
    · exact .inl ⟨h1, by omega⟩
  · rintro (⟨h1, h2⟩ | ⟨h1, h2⟩)
    · exact ⟨h1, by omega⟩
    · exact ⟨h2, by omega⟩
theorem canP_mono {T' : Thy} (h : ∀ r, T.St r → T'.St r) (e1 : T'.hd = T.hd) (e2 : T'.bd = T.bd) {q k : Int} (hc : CanP T Fl s q k) : CanP T' Fl s q k := by
  rcases hc with hc | ⟨r, h1, h2, h3⟩
  · exact .inl hc
  · exact .inr ⟨r, h r h1, by rw [e1]; exact h2, by rw [e2]; exact h3⟩
/-- One rule more. -/
theorem rule_ok (hT : T.Ok) {j : Nat} (hj : j < T.m) (hF : ∀ x, x ∈ Fl → T.Rg x) (h : Ini (T.fst j) Fl s) (hk : T.kd j = 1) : ∃ s', ruleV T.n T.hd T.bd j s = some s' ∧ Ini (T.fst (j + 1)) Fl s' := by
  have hst : T.St j := ⟨⟨by omega, by omega⟩, hk⟩
  have hR := hT.hd j hst
  have hc := h.core
  have hlf := hc.left _ hR
  have c2 := List.countP_le_length (p := fun r' => decide ((T.fst j).kd r' = 1 ∧ T.hd r' = T.hd j) && !gb s.dead r') (l := irange T.m)
  rw [irange_len] at c2
  have hlf : ga s.left (T.hd j) = ((irange T.m).countP (fun r' => decide ((T.fst j).kd r' = 1 ∧ T.hd r' = T.hd j) && !gb s.dead r') : Nat) := hlf
  have m4 := hT.m4
  have n4 := hT.n4
  have lrow := h.stat.rls _ hR
  have c3 := List.length_filter_le (fun r => decide ((T.fst j).kd r = 1 ∧ T.hd r = T.hd j)) (irange T.m)
  rw [irange_len] at c3
  have hg : (0 ≤ T.hd j ∧ T.hd j < (T.n : Int)) ∧ sm (ga s.left (T.hd j)) ∧ (s.rls.getD (T.hd j).toNat []).length < 1000000 := by
    refine ⟨hR, ?_, ?_⟩
    · unfold sm; omega
    · rw [lrow]
      have : (T.fst j).m = T.m := rfl
      rw [this]
      show (List.filter (fun r => decide ((T.fst j).kd r = 1 ∧ T.hd r = T.hd j)) (irange T.m)).length < 1000000
      omega
  obtain ⟨I, i1, i2, i3⟩ := insV_ok (n := T.n) (r := j) (T.bd j) { s with need := s.need.set j ((T.bd j).length : Int), left := s.left.set (T.hd j).toNat (ga s.left (T.hd j) + 1), rls := s.rls.set (T.hd j).toNat (s.rls.getD (T.hd j).toNat [] ++ [(j : Int)]) } h.stat.li (hT.nd j hst) (hT.bd j hst) (fun b hb => by
    have hb' := hT.bd j hst b hb
    have := nodup_len T.m (s.ins.getD b.toNat []) (h.stat.inn b hb') (fun r hr => ((h.stat.ins b hb' r).1 hr).1.1)
    show (s.ins.getD b.toNat []).length < 1000000
    omega)
  have ndj : ∀ r, (T.fst j).St r → r ≠ j := fun r hr e => by have := (fst_st.1 hr).2; omega
  have lr : (j : Int) < s.need.length := by rw [hc.lne]; show (j : Int) < (T.m : Int); omega
  have ll : T.hd j < s.left.length := by rw [hc.lle]; exact hR.2
  have lrl : T.hd j < s.rls.length := by rw [h.stat.lr]; exact hR.2
  have C1 : Core (T.fst (j + 1)) Fl no { s with need := s.need.set j ((T.bd j).length : Int), left := s.left.set (T.hd j).toNat (ga s.left (T.hd j) + 1), rls := s.rls.set (T.hd j).toNat (s.rls.getD (T.hd j).toNat [] ++ [(j : Int)]), ins := I } := { hc with
    lne := by rw [List.length_set]; exact hc.lne
    lle := by rw [List.length_set]; exact hc.lle
    need := fun r hr => by
      have hr0 := (fst_st.1 hr).1.1.1
      have g := ga_set (l := s.need) (i := (j : Int)) (j := r) (x := ((T.bd j).length : Int)) (by omega) hr0 lr
      rw [Int.toNat_natCast] at g
      show ga (s.need.set j ((T.bd j).length : Int)) r = _
      rw [g]
      rcases fst_succ.1 hr with h1 | ⟨rfl, h1⟩
      · rw [if_neg (ndj r h1)]
        exact hc.need r h1
      · rw [if_pos rfl]
        congr 1
        exact (List.countP_eq_length.2 (fun b _ => by simp [no])).symm
    dead := fun r hr => by
      show gb s.dead r = true ↔ _
      rw [h.nod r]
      exact ⟨fun h => (by cases h), fun ⟨b, _, _, h⟩ => (by cases h)⟩
    left := fun q hq => by
      show ga (s.left.set (T.hd j).toNat (ga s.left (T.hd j) + 1)) q = ((irange T.m).countP (fun r => decide ((T.fst (j + 1)).kd r = 1 ∧ T.hd r = q) && !gb s.dead r) : Nat)
      rw [ga_set hR.1 hq.1 ll, kd_cnt hj q (fun r => !gb s.dead r)]
      have nd : (!gb s.dead (j : Int)) = true := by rw [h.nod]; rfl
      by_cases e : q = T.hd j
      · subst e
        rw [if_pos rfl, if_pos ⟨hk, rfl, nd⟩, hlf]
        omega
      · rw [if_neg e, if_neg (fun x => e x.2.1.symm)]
        exact hc.left q hq
    pa := fun q hq hp => canP_mono (fun r hr => fst_succ.2 (.inl hr)) rfl rfl (hc.pa q hq hp)
    mi := fun q hq hm => by
      have hm : gb s.minus q = true := hm
      rw [h.nom q hq] at hm; cases hm }
  have S1 : Stat (T.fst (j + 1)) { s with need := s.need.set j ((T.bd j).length : Int), left := s.left.set (T.hd j).toNat (ga s.left (T.hd j) + 1), rls := s.rls.set (T.hd j).toNat (s.rls.getD (T.hd j).toNat [] ++ [(j : Int)]), ins := I } := by
    refine ⟨i2, by rw [List.length_set]; exact h.stat.lr, fun b hb => ?_, fun b hb r => ?_, fun q hq => ?_⟩
    · show (I.getD b.toNat []).Nodup
      rw [i3 b hb.1 hb.2]
      have := h.stat.inn b hb
      by_cases e : b ∈ T.bd j
      · rw [if_pos e]
        exact List.nodup_append.2 ⟨this, by simp, fun a ha c hc e' => ndj a ((h.stat.ins b hb a).1 ha).1 (by rw [e', List.mem_singleton.1 hc])⟩
      · rw [if_neg e]; exact this
    · show r ∈ I.getD b.toNat [] ↔ _
      rw [i3 b hb.1 hb.2]
      have hi := h.stat.ins b hb r
      rw [fst_succ]
      by_cases e : b ∈ T.bd j
      · rw [if_pos e]
        show r ∈ s.ins.getD b.toNat [] ++ [(j : Int)] ↔ _
        rw [List.mem_append, hi, List.mem_singleton]
        constructor
        · rintro (⟨h1, h2⟩ | rfl)
          · exact ⟨.inl h1, h2⟩
          · exact ⟨.inr ⟨rfl, hst⟩, e⟩
        · rintro ⟨h1 | ⟨h1, _⟩, h2⟩
          · exact .inl ⟨h1, h2⟩
          · exact .inr h1
      · rw [if_neg e]
        show r ∈ s.ins.getD b.toNat [] ↔ _
        rw [hi]
        constructor
        · rintro ⟨h1, h2⟩
          exact ⟨.inl h1, h2⟩
        · rintro ⟨h1 | ⟨rfl, _⟩, h2⟩
          · exact ⟨h1, h2⟩
          · exact absurd h2 e
    · show (s.rls.set (T.hd j).toNat (s.rls.getD (T.hd j).toNat [] ++ [(j : Int)])).getD q.toNat [] = (irange T.m).filter (fun r => decide ((T.fst (j + 1)).kd r = 1 ∧ T.hd r = q))
      rw [row_set hR.1 hq.1 lrl, kd_fil hj]
      by_cases e : q = T.hd j
      · subst e
        rw [if_pos rfl, if_pos ⟨hk, rfl⟩, lrow]
        rfl
      · rw [if_neg e, if_neg (fun x => e x.2.symm), List.append_nil]
        exact h.stat.rls q hq
  have out : ∀ s', (if T.bd j = [] then tellV T.n { s with need := s.need.set j ((T.bd j).length : Int), left := s.left.set (T.hd j).toNat (ga s.left (T.hd j) + 1), rls := s.rls.set (T.hd j).toNat (s.rls.getD (T.hd j).toNat [] ++ [(j : Int)]), ins := I } (T.hd j) true 1 else some { s with need := s.need.set j ((T.bd j).length : Int), left := s.left.set (T.hd j).toNat (ga s.left (T.hd j) + 1), rls := s.rls.set (T.hd j).toNat (s.rls.getD (T.hd j).toNat [] ++ [(j : Int)]), ins := I }) = some s' → ruleV T.n T.hd T.bd j s = some s' := by
    intro s' hs'
    unfold ruleV
    rw [if_pos hg]
    show (insV T.n j (T.bd j) { s with need := s.need.set j ((T.bd j).length : Int), left := s.left.set (T.hd j).toNat (ga s.left (T.hd j) + 1), rls := s.rls.set (T.hd j).toNat (s.rls.getD (T.hd j).toNat [] ++ [(j : Int)]) }).bind _ = _
    rw [i1]
    exact hs'
  by_cases hb : T.bd j = []
  · obtain ⟨s', t1, I1⟩ := Ini.tell (hT.fst (j + 1)) C1 h.nom h.nod h.one S1 hR (fun _ => .inr ⟨j, fst_succ.2 (.inr ⟨rfl, hst⟩), rfl, fun b hm => by
      have hm : b ∈ T.bd j := hm
      rw [hb] at hm; cases hm⟩) (fun x hx _ => h.fa x hx) hF (fun r hr hbr hne => by
        rcases fst_succ.1 hr with h1 | ⟨rfl, h1⟩
        · exact h.emp r h1 hbr
        · exact absurd rfl hne)
    refine ⟨s', out s' ?_, I1⟩
    rw [if_pos hb]; exact t1
  · refine ⟨_, out _ (by rw [if_neg hb]), C1, h.nom, h.nod, h.one, h.fa, fun r hr hbr => ?_, S1⟩
    rcases fst_succ.1 hr with h1 | ⟨rfl, h1⟩
    · exact h.emp r h1 hbr
    · exact absurd hbr hb
theorem rule_skip {j : Nat} (hj : j < T.m) (h : Ini (T.fst j) Fl s) (hk : T.kd j ≠ 1) : Ini (T.fst (j + 1)) Fl s := by
  have hst : ∀ r, (T.fst (j + 1)).St r ↔ (T.fst j).St r := fun r => by
    rw [fst_succ]
    exact ⟨fun x => x.elim id (fun ⟨e, y⟩ => absurd (e ▸ y.2) hk), .inl⟩
  have hc := h.core
  refine ⟨{ hc with
    need := fun r hr => hc.need r ((hst r).1 hr)
    dead := fun r hr => hc.dead r ((hst r).1 hr)
    left := fun q hq => ?_
    pa := fun q hq hp => canP_mono (fun r hr => (hst r).2 hr) rfl rfl (hc.pa q hq hp)
    mi := fun q hq hm => ?_ }, h.nom, h.nod, h.one, h.fa, fun r hr => h.emp r ((hst r).1 hr), ⟨h.stat.li, h.stat.lr, h.stat.inn, fun b hb r => by rw [hst]; exact h.stat.ins b hb r, fun q hq => ?_⟩⟩
  · show ga s.left q = ((irange T.m).countP (fun r => decide ((T.fst (j + 1)).kd r = 1 ∧ T.hd r = q) && !gb s.dead r) : Nat)
    rw [kd_cnt hj q (fun r => !gb s.dead r), if_neg (fun x => hk x.1)]
    exact hc.left q hq
  · rw [h.nom q hq] at hm; cases hm
  · show s.rls.getD q.toNat [] = (irange T.m).filter (fun r => decide ((T.fst (j + 1)).kd r = 1 ∧ T.hd r = q))
    rw [kd_fil hj, if_neg (fun x => hk x.1), List.append_nil]
    exact h.stat.rls q hq
theorem rules_ok (hT : T.Ok) (hF : ∀ x, x ∈ Fl → T.Rg x) : ∀ (d j : Nat) (s : SV), j + d = T.m → Ini (T.fst j) Fl s → ∃ s', rulesV T.n T.kd T.hd T.bd ((irange T.m).drop j) s = some s' ∧ Ini (T.fst T.m) Fl s'
  | 0, j, s, hd, h => by
    obtain rfl : j = T.m := by omega
    exact ⟨s, by rw [List.drop_of_length_le (by rw [irange_len]; omega)]; rfl, h⟩
  | d + 1, j, s, hd, h => by
    have hj : j < T.m := by omega
    rw [irange_drop hj]
    unfold rulesV
    by_cases hk : T.kd j = 1
    · rw [if_pos hk]
      obtain ⟨s1, e1, I1⟩ := rule_ok hT hj hF h hk
      obtain ⟨s2, e2, I2⟩ := rules_ok hT hF d (j + 1) s1 (by omega) I1
      exact ⟨s2, by rw [e1]; exact e2, I2⟩
    · rw [if_neg hk]
      exact rules_ok hT hF d (j + 1) s (by omega) (rule_skip hj h hk)
/-- All rules: the theory itself. -/
theorem ini_all (h : Ini (T.fst T.m) Fl s) : Ini T Fl s := by
  have hst : ∀ r, (T.fst T.m).St r ↔ T.St r := fun r => by rw [fst_st]; exact ⟨fun x => x.1, fun x => ⟨x, x.1.2⟩⟩
  have hkd : ∀ r, r ∈ irange T.m → (T.fst T.m).kd r = T.kd r := fun r hr => by rw [fst_kd, if_pos (irange_mem.1 hr).2]
  have hc := h.core
  refine ⟨{ hc with
    need := fun r hr => hc.need r ((hst r).2 hr)
    dead := fun r hr => hc.dead r ((hst r).2 hr)
    left := fun q hq => ?_
    pa := fun q hq hp => canP_mono (fun r hr => (hst r).1 hr) rfl rfl (hc.pa q hq hp)
    mi := fun q hq hm => ?_ }, h.nom, h.nod, h.one, h.fa, fun r hr => h.emp r ((hst r).2 hr), ⟨h.stat.li, h.stat.lr, h.stat.inn, fun b hb r => by rw [← hst]; exact h.stat.ins b hb r, fun q hq => ?_⟩⟩
  · rw [hc.left q hq]
    congr 1
    exact List.countP_congr (fun r hr => by rw [hkd r hr]; rfl)
  · rw [h.nom q hq] at hm; cases hm
  · rw [h.stat.rls q hq]
    exact List.filter_congr (fun r hr => by rw [hkd r hr]; rfl)
/-- Literals without rules have -D. -/
theorem none_ok (hT : T.Ok) : ∀ (d j : Nat) (s : SV), j + d = T.n → Core T Fl no s → (∀ x, x ∈ s.told → ga s.hgt x = 1) → (∀ r, gb s.dead r = false) → Stat T s → (∀ q : Int, 0 ≤ q → q < j → ga s.left q = 0 → q ∈ s.told) → (∀ q, q ∈ Fl → gb s.plus q = true) → (∀ q, q ∈ Fl → T.Rg q) → (∀ r, T.St r → T.bd r = [] → T.hd r ∈ s.told) →
    ∃ s', noneV T.n ((irange T.n).drop j) s = some s' ∧ Core T Fl no s' ∧ (∀ x, x ∈ s'.told → ga s'.hgt x = 1) ∧ (∀ r, gb s'.dead r = false) ∧ Stat T s' ∧ (∀ q, T.Rg q → ga s'.left q = 0 → q ∈ s'.told) ∧ (∀ q, q ∈ Fl → gb s'.plus q = true) ∧ (∀ r, T.St r → T.bd r = [] → T.hd r ∈ s'.told)
  | 0, j, s, hd, hc, h1, h2, h3, h4, h5, _, h6 => by
    obtain rfl : j = T.n := by omega
    exact ⟨s, by rw [List.drop_of_length_le (by rw [irange_len]; omega)]; rfl, hc, h1, h2, h3, fun q hq => h4 q hq.1 hq.2, h5, h6⟩
  | d + 1, j, s, hd, hc, h1, h2, h3, h4, h5, hF, h6 => by
    have hj : j < T.n := by omega
    have hR : T.Rg j := ⟨by omega, by omega⟩
    rw [irange_drop hj]
    unfold noneV
    by_cases hz : ga s.left j = 0
    · rw [if_pos hz]
      obtain ⟨s1, t1, C1, X1, t2, t3, tn, td, tl, t4⟩ := tell_core (p := false) hT hc (q := j) (k := 1) hR (by omega) (by omega) (fun x hx => by rw [h1 x hx]; omega) (fun hn => by
        rw [if_neg (by simp)]
        refine ⟨fun hf => hn ((hc.ti _ hR).2 (.inl (h5 _ hf))), fun r hr e => ?_⟩
        have := hc.left _ hR
        rw [hz] at this
        have := countP_zero (f := fun r => decide (T.kd r = 1 ∧ T.hd r = j) && !gb s.dead r) (by omega) r (irange_mem.2 hr.1)
        simp [hr.2, e, h2 r] at this)
      obtain ⟨s2, e2, R2⟩ := none_ok hT d (j + 1) s1 (by omega) C1 (fun x hx => by
        by_cases ho : x ∈ s.told
        · rw [(X1.old x ho).2.2]; exact h1 x ho
        · rcases t2 x hx with h | rfl
          · exact absurd h ho
          · exact (t4 ho).2.2) (fun r => by rw [td]; exact h2 r) (h3.ext X1) (fun q q0 q1 hl => by
        rw [tl] at hl
        by_cases e : q = j
        · rw [e]; exact t3
        · exact X1.mem (h4 q q0 (by omega) hl)) (fun q hq => by
        have := (hc.ti _ (hF q hq)).2 (.inl (h5 q hq))
        rw [(X1.old q this).1]; exact h5 q hq) hF (fun r hr hb => X1.mem (h6 r hr hb))
      exact ⟨s2, by rw [t1]; exact e2, R2⟩
    · rw [if_neg hz]
      exact none_ok hT d (j + 1) s (by omega) hc h1 h2 h3 (fun q q0 q1 hl => by
        by_cases e : q = j
        · rw [e] at hl; exact absurd hl hz
        · exact h4 q q0 (by omega) hl) h5 hF h6
theorem solve_ok (hT : T.Ok) (hF : ∀ q, q ∈ Fl → T.Rg q) : ∃ s1 s2 s3 s', factsV T.n Fl (zeroV T.n T.m) = some s1 ∧ rulesV T.n T.kd T.hd T.bd (irange T.m) s1 = some s2 ∧ noneV T.n (irange T.n) s2 = some s3 ∧ waveV T.n T.m T.hd T.n 0 s3 = some s' ∧ Solved T Fl s' := by
  obtain ⟨s1, e1, I1⟩ := facts_ok (T := T.fst 0) (hT.fst 0) (fun r h => by have := (fst_st.1 h); have := this.1.1.1; have := (fst_st.1 h).2; omega) Fl [] _ (ini_zero T) (fun q h => by cases h) hF
  obtain ⟨s2, e2, I2⟩ := rules_ok hT hF T.m 0 s1 (by omega) I1
  have I2 := ini_all I2
  obtain ⟨s3, e3, C3, o3, d3, S3, l3, f3, m3⟩ := none_ok hT T.n 0 s2 (by omega) I2.core I2.one I2.nod I2.stat (fun q h0 h1 => by omega) I2.fa hF I2.emp
  have hno : ∀ i : Nat, i = 0 → dn T i s3 = no := fun i hi => by
    subst hi
    funext b r
    simp [dn, no]
  have D3 : Did T Fl no s3 := by
    have nb : ∀ q, T.Rg q → q ∈ Fl ∨ ga s3.left q ≠ 0 ∨ gb s3.minus q = true := fun q hq => by
      by_cases hl : ga s3.left q = 0
      · rcases (C3.ti q hq).1 (l3 q hq hl) with h | h
        · rcases C3.pa q hq h with ⟨h1, _⟩ | ⟨r, h1, h2, _⟩
          · exact .inl h1
          · have := C3.left q hq
            rw [hl] at this
            have := countP_zero (f := fun r => decide (T.kd r = 1 ∧ T.hd r = q) && !gb s3.dead r) (by omega) r (irange_mem.2 h1.1)
            simp [h1.2, h2, d3 r] at this
        · exact .inr (.inr h)
      · exact .inr (.inl hl)
    refine ⟨fun r k hk hr hb => ?_, fun q k hk hq hf hb => ?_, fun q hq hf => ⟨f3 q hf, o3 q ((C3.ti q hq).2 (.inl (f3 q hf)))⟩⟩
    · have he : T.bd r = [] := by
        cases e : T.bd r with
        | nil => rfl
        | cons b l => have := (hb b (by rw [e]; exact List.mem_cons_self ..)).2.1; cases this
      have ht := m3 r hr he
      refine ⟨?_, by rw [o3 _ ht]; omega⟩
      rcases (C3.ti _ (hT.hd r hr)).1 ht with h | h
      · exact h
      · obtain ⟨b, hb, _⟩ := (C3.mi _ (hT.hd r hr) h).2 r hr rfl
        rw [he] at hb; cases hb
    · rcases nb q hq with h | h | h
      · exact absurd h hf
      · refine absurd ?_ h
        rw [C3.left q hq]
        have : (irange T.m).countP (fun r => decide (T.kd r = 1 ∧ T.hd r = q) && !gb s3.dead r) = 0 := by
          rw [List.countP_eq_zero]
          intro r hr hx
          rw [Bool.and_eq_true, decide_eq_true_eq] at hx
          obtain ⟨b, _, _, hD, _⟩ := hb r ⟨irange_mem.1 hr, hx.1.1⟩ hx.1.2
          cases hD
        rw [this]; rfl
      · exact ⟨h, by rw [o3 q ((C3.ti q hq).2 (.inr h))]; omega⟩
  obtain ⟨s4, e4, C4, D4, X4⟩ := wave_ok hT T.n 0 s3 (by omega) (Nat.zero_le _) (by rw [hno 0 rfl]; exact C3) (by rw [hno 0 rfl]; exact D3) S3 (fun x hx y hy => by
    rw [List.drop_zero] at hy
    rw [o3 x hx, o3 y hy]; omega)
  rw [List.drop_zero] at e2 e3
  exact ⟨s1, s2, s3, s4, e1, e2, e3, e4, solved_of hT hF C4 D4 (S3.ext X4)⟩
end
end Go.Proofs.Ythlmpioijjnmnaa.S
