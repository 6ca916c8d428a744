/- LexerJoins, plainly: the document's Text and Join answer as the program's at any tokens. -/
import Derived.Test.YtmjneidcdaapdaaLexX
import Derived.Test.YtmjneidcdaapdaaLexR
import Derived.Test.YtmjneidcdaapdaaOpn
import Derived.Test.YtmjneidcdaapdaaPx7
namespace Go.Proofs.Ytmjneidcdaapdaa.P
open Go.RowKit Go.Proofs.YtmjneidcdaapdaaW.PrintWords Go.Proofs.YtmjneidcdaapdaaW.PrintLast
set_option linter.unusedVariables false
set_option linter.unusedSimpArgs false

theorem mark_last : ∀ m ∈ marksL, clsI (bt m ((m.size - 1 : Nat) : Int)) ≠ 1 := by decide
theorem last_run {s : ByteArray} {G : Int → Bool} {p : Nat} (hG : G 1 = false) (hp : p < s.size) (hr : runI s G p = s.size) : clsI (bt s ((s.size - 1 : Nat) : Int)) ≠ 1 := fun e => by
  have := (runI_spec s G (p := p) (by omega)).2.2.1 (s.size - 1) (by omega) (by omega)
  rw [e, hG] at this
  cases this
theorem put_pos {s : ByteArray} {k : Int} {q : Nat} {T : List Tk} {R : List ByteArray} {x : Rs} {n : Nat} (h : putP s 0 k q T R = x) (hx : x.2.1 = n) : q = n := by
  rw [← hx, ← h]
  unfold putP
  split <;> rfl
theorem one_first {s : ByteArray} {k : Int} (hn : nexP s 0 [] [] = (true, s.size, [⟨k, s, 0⟩], [], 0, 0)) (hk : k ≠ 5) (h0 : 0 < s.size) : bt s (0 : Nat) ≠ 35 ∧ clsI (bt s ((s.size - 1 : Nat) : Int)) ≠ 1 := by
  unfold nexP at hn
  by_cases c1 : clsI (bt s (0 : Nat)) = 1
  · rw [if_pos c1] at hn
    have := congrArg (fun x : Rs => x.2.2.1) hn
    simp at this
  rw [if_neg c1] at hn
  have ne35 : ∀ c : Int, clsI (bt s (0 : Nat)) = c → c ≠ 0 → bt s (0 : Nat) ≠ 35 := fun c e h x => by
    rw [x] at e
    exact h (by rw [← e]; decide)
  by_cases c2 : clsI (bt s (0 : Nat)) = 2
  · rw [if_pos c2] at hn
    refine ⟨ne35 2 c2 (by decide), ?_⟩
    unfold wordP at hn
    split at hn
    · cases hn
    · exact last_run (G := gN) rfl h0 (put_pos hn rfl)
  rw [if_neg c2] at hn
  by_cases c3 : clsI (bt s (0 : Nat)) = 3
  · rw [if_pos c3] at hn
    refine ⟨ne35 3 c3 (by decide), ?_⟩
    unfold wordP at hn
    split at hn
    · cases hn
    · exact last_run (G := gV) rfl h0 (put_pos hn rfl)
  rw [if_neg c3] at hn
  by_cases c4 : clsI (bt s (0 : Nat)) = 4
  · rw [if_pos c4] at hn
    refine ⟨ne35 4 c4 (by decide), ?_⟩
    unfold numP at hn
    by_cases cd : dateI s 0 = true
    · rw [if_pos cd] at hn
      have hz : 0 + 10 = s.size := put_pos hn rfl
      unfold dateI at cd
      simp only [Bool.and_eq_true, dFrom] at cd
      have h9 : dOk s 0 9 = true := by
        obtain ⟨_, _, _, _, _, _, _, _, _, _, h, _⟩ := cd
        exact h
      unfold dOk at h9
      rw [if_neg (by decide)] at h9
      rw [show s.size - 1 = 0 + 9 by omega]
      intro e
      rw [e] at h9
      exact absurd h9 (by decide)
    · rw [if_neg cd] at hn
      have hz : numQ s 0 = s.size := put_pos hn rfl
      unfold numQ at hz
      split at hz
      · next c => exact last_run (G := gD) rfl c.1.1 hz
      · exact last_run (G := gD) rfl h0 hz
  rw [if_neg c4] at hn
  by_cases c34 : bt s (0 : Nat) = 34
  · rw [if_pos c34] at hn
    unfold quoP at hn
    split at hn
    · have := congrArg (fun x : Rs => x.2.2.1) hn
      simp only [List.nil_append, List.cons.injEq, S76.mk.injEq] at this
      exact absurd this.1.1.symm hk
    · cases hn
  rw [if_neg c34] at hn
  by_cases c35 : bt s (0 : Nat) = 35
  · rw [if_pos c35] at hn
    unfold remP at hn
    have := congrArg (fun x : Rs => x.2.2.1) hn
    simp at this
  rw [if_neg c35] at hn
  refine ⟨c35, ?_⟩
  unfold marP at hn
  rcases hm : findM s 0 marksL with _ | m
  · rw [hm] at hn; cases hn
  · rw [hm] at hn
    have := congrArg (fun x : Rs => x.2.2.1) hn
    simp only [List.nil_append, List.cons.injEq, S76.mk.injEq] at this
    rw [← this.1.2.1]
    exact mark_last m (findM_mem hm).1
theorem raw_first (t : Tk) (h : SelfN t) : bt (rawT t) (0 : Nat) ≠ 35 ∧ clsI (bt (rawT t) (((rawT t).size - 1 : Nat) : Int)) ≠ 1 := by
  obtain ⟨h0, _, h1⟩ := raw_one t h
  by_cases h5 : t.f0 = 5
  · unfold rawT
    rw [if_pos h5]
    obtain ⟨z, b0, bq, bi, ex⟩ := quo_byte t.f1
    rw [b0, z, show t.f1.size + 2 - 1 = t.f1.size + 1 by omega, bq]
    exact ⟨by decide, by decide⟩
  · have e : rawT t = t.f1 := by unfold rawT; rw [if_neg h5]
    rw [e] at h0 h1 ⊢
    exact one_first h1 h5 h0
theorem raw_scan (t : Tk) (h : SelfN t) : scanP (rawT t) = ([⟨t.f0, t.f1, 0⟩], [], 0, ((rawT t).size : Int)) := by
  obtain ⟨h0, _, h1⟩ := raw_one t h
  have hz : (rawT t).size ≤ 65536 := by
    unfold SelfN at h
    unfold rawT
    by_cases h5 : t.f0 = 5
    · rw [if_pos h5] at h ⊢
      rw [(quo_byte t.f1).1]
      omega
    · rw [if_neg h5] at h ⊢
      exact h.2.1
  unfold scanP
  rw [if_neg (by omega), scanF_go h0 (by rw [h1]), h1, scanF_end (Nat.lt_irrefl _)]
/-- Whatever a text tells, each token of it stands for itself. -/
theorem scan_self (s : ByteArray) (h0 : (scanP s).2.2.1 = 0) : ∀ t ∈ (scanP s).1, SelfN t := by
  unfold scanP at h0 ⊢
  by_cases hb : 65536 < s.size
  · rw [if_pos hb] at h0; exact absurd h0 (by decide)
  · rw [if_neg hb] at h0 ⊢
    exact (scan_inv s (by omega) s.size 0 [] [] (by omega) (by omega) h0 (fun t ht => by cases ht) (by simp [wtT])).1
end Go.Proofs.Ytmjneidcdaapdaa.P

namespace Go.Proofs.Ytmjneidcdaapdaa.P
open Go.RowKit Go.Proofs.YtmjneidcdaapdaaW.PrintWords Go.Proofs.YtmjneidcdaapdaaW.PrintLast
def WfToks (l : List S76) : Prop := l.length * 32 ≤ 140737488351232 ∧ ∀ t ∈ l, t.f1.size ≤ 140737488351232
section
variable {H : Type} {enc : TypeId × Value → H} {W : World}
theorem opn_tok : Opn enc Try.prog W k76 76 (fun t => t.f1.size ≤ 140737488351232) :=
  (Opn.iso (Opn.struct Try.underlying76 (by kernel_rfl) (OpnF.cons rfl (by kernel_rfl) (Opn.int Try.underlying74) (OpnF.cons rfl (by kernel_rfl) (Opn.string Try.underlying9) (OpnF.one rfl (by kernel_rfl) (Opn.int Try.underlying3)))))
    (fun x : S76 => (x.f0, x.f1, x.f2)) (fun p => ⟨p.1, p.2.1, p.2.2⟩) (fun _ => rfl)).imp fun _ h => h.2.1
theorem opn_toks : Opn enc Try.prog W (Kd.slice 76 k76) 30 WfToks :=
  (Opn.slice Try.underlying30 (by kernel_rfl) opn_tok).imp fun l h => ⟨(show Try.prog.bytesOf 76 = 32 by kernel_rfl) ▸ h.1, h.2⟩
end
end Go.Proofs.Ytmjneidcdaapdaa.P

namespace Go.Proofs.Ytmjneidcdaapdaa.Pure
open Go.RowKit Go.Proofs.Ytmjneidcdaapdaa.P Go.Proofs.YtmjneidcdaapdaaW.PrintWords Go.Proofs.YtmjneidcdaapdaaW.PrintLast
set_option linter.unusedVariables false
set_option linter.unusedSimpArgs false
theorem works_ok : lexpriorlaw04_works.f = some true := by kernel_rfl
theorem wr64 {x : Int} (h0 : -9223372036854775808 ≤ x) (h1 : x ≤ 9223372036854775807) : wrap64 x = x := by unfold wrap64; omega
theorem sc64 (n : Nat) (h : n ≤ 1000000000000000) : wrap64 ((n : Int) + 1) = ((n + 1 : Nat) : Int) := (wr64 (by omega) (by omega)).trans (by omega)
theorem any_no (chars : List UInt8) : ∀ l : List UInt8, Lib.containsAny l chars = false → ∀ x ∈ l, chars.contains x = false
  | [], _, x, hx => by cases hx
  | b :: l, h, x, hx => by
    unfold Lib.containsAny at h
    rw [Lib.indexAny] at h
    have hg := Lib.indexAny_ge chars l
    by_cases hb : chars.contains b = true
    · rw [if_pos hb] at h; exact absurd h (by decide)
    · rw [if_neg hb] at h
      have hl : Lib.containsAny l chars = false := by
        unfold Lib.containsAny
        by_cases he : (Lib.indexAny l chars == -1) = true
        · rw [eq_of_beq he]; rfl
        · rw [if_neg he] at h
          simp only [decide_eq_false_iff_not] at h ⊢
          omega
      rcases List.mem_cons.1 hx with e | e
      · rw [e]; simpa using hb
      · exact any_no chars l hl x e
theorem self5 (t : Tk) (h5 : t.f0 = 5) (hz : t.f1.size ≤ 65534) (hc : Lib.containsAny t.f1.data.toList [34, 10] = false) : SelfN t := by
  unfold SelfN
  rw [if_pos h5]
  refine ⟨hz, hc, fun i hi => ?_⟩
  have hl : i < t.f1.data.toList.length := by rw [← Lib.size_eq]; exact hi
  have := any_no _ _ hc (t.f1.data.toList[i]) (List.getElem_mem hl)
  rw [bt_list, List.getD_eq_getElem?_getD, List.getElem?_eq_getElem hl]
  rw [qB_ok]
  simpa [qN] using this
theorem one_tok {L : List Tk} (h : (L.length : Int) = 1) : ∃ u, L = [u] := by
  match L, h with
  | [u], _ => exact ⟨u, rfl⟩
  | [], h => exact absurd h (by decide)
  | a :: b :: l, h => simp at h; omega
theorem self_key {t u : Tk} (h : SelfN u) (h0 : u.f0 = t.f0) (h1 : u.f1 = t.f1) : SelfN t := by
  unfold SelfN at h ⊢
  rw [h0, h1] at h
  exact h
theorem ba_of {a b : ByteArray} (h : a.toList = b.toList) : a = b := by
  apply ba_ext
  rw [← Lib.toList_data, ← Lib.toList_data]
  exact h
open Classical in
noncomputable def textP (t : Tk) : ByteArray × Int := if SelfN t then (rawT t, 0) else ((⟨#[]⟩ : ByteArray), 51)
theorem text_f (t : Tk) (hs : t.f1.size ≤ 140737488351232) (k : Nat) (hk : 1 ≤ k) : lexer_Text.f k t.f0 t.f1 t.f2 = some (textP t) := by
  obtain ⟨k, rfl⟩ : ∃ m, k = m + 1 := ⟨k - 1, by omega⟩
  unfold lexer_Text.f textP
  by_cases h5 : t.f0 = 5
  · rw [if_pos h5]
    by_cases hz : (t.f1.size : Int) > 65534
    · have hn : ¬ SelfN t := fun h => by unfold SelfN at h; rw [if_pos h5] at h; omega
      rw [if_pos hz, if_neg hn]
      rfl
    · have hc : strings_ContainsAny.f t.f1 (⟨#[34, 10]⟩ : ByteArray) = some (Lib.containsAny t.f1.data.toList [34, 10]) := by
        unfold strings_ContainsAny.f
        rw [if_pos ⟨rfl, by omega⟩]
      rw [if_neg hz, hc]
      have z1 : ((⟨#[34]⟩ : ByteArray) ++ t.f1).size = 1 + t.f1.size := by simp [ByteArray.size_append]; rfl
      simp only [Option.bind_some, lexer_Text.j0, z1]
      cases hb : Lib.containsAny t.f1.data.toList [34, 10] with
      | true =>
        have hn : ¬ SelfN t := fun h => by unfold SelfN at h; rw [if_pos h5, hb] at h; exact absurd h.2.1 (by decide)
        rw [if_neg hn, if_pos rfl]
      | false =>
        rw [if_pos (self5 t h5 (by omega) hb), if_neg (by decide), if_pos (by omega), if_pos (by omega)]
        unfold rawT
        rw [if_pos h5]
  · rw [if_neg h5]
    unfold lexer_Tokens.f
    simp only [Option.bind_some]
    by_cases hT : SelfN t
    · have e : rawT t = t.f1 := by unfold rawT; rw [if_neg h5]
      have hsc := raw_scan t hT
      rw [e] at hsc
      rw [if_pos hT, hsc, e]
      simp only [if_true]
      rw [if_pos (by rfl), if_pos (by simp)]
      have e : rd_T76 [(⟨t.f0, t.f1, 0⟩ : Tk)] 0 = ⟨t.f0, t.f1, 0⟩ := rfl
      rw [e]
      simp
    · rw [if_neg hT]
      by_cases h0 : (scanP t.f1).2.2.1 = 0
      · rw [if_pos h0]
        by_cases h1 : ((scanP t.f1).1.length : Int) = 1
        · rw [if_pos h1, if_pos (by omega)]
          have hself := scan_self t.f1 h0
          obtain ⟨u, hu⟩ := one_tok h1
          rw [hu] at hself ⊢
          have hsu := hself u List.mem_cons_self
          have e : rd_T76 [u] 0 = u := rfl
          rw [e, if_pos]
          by_cases a : u.f0 = t.f0
          · by_cases b : u.f1.toList = t.f1.toList
            · exact absurd (self_key hsu a (ba_of b)) hT
            · simp [b]
          · simp [a]
        · rw [if_neg h1]
      · rw [if_neg h0]
theorem blank_no {c : Int} (h : clsI c ≠ 1) : lexpriorref04_blank.f c = some false := by
  have hc : ¬ ((c = 9 ∨ c = 10) ∨ (c = 13 ∨ c = 32)) := fun x => h (by unfold clsI; rw [if_pos x])
  unfold lexpriorref04_blank.f
  rw [if_neg (fun x => hc (.inl (.inl x))), if_neg (fun x => hc (.inl (.inr x))), if_neg (fun x => hc (.inr (.inl x)))]
  have : (c == 32) = false := by simpa using fun x => hc (.inr (.inr x))
  rw [this]
theorem text_j0 (t : Tk) (x : ByteArray) (hx : x = rawT t) (k : Nat) (hk : 5000000001 ≤ k) : lexpriorref04_Text.j0 k x t.f0 t.f1 t.f2 = some (textP t) := by
  obtain ⟨k, rfl⟩ : ∃ m, k = m + 2 := ⟨k - 2, by omega⟩
  have tr : ∀ L : List Tk, lexpriorref04_Text.j1 (k + 1) x L true t.f0 t.f1 t.f2 = some ((⟨#[]⟩ : ByteArray), 51) := fun L => rfl
  simp only [lexpriorref04_Text.j0]
  rw [tokens_ref x (k + 1) (by omega)]
  simp only [Option.bind_some, tr]
  unfold textP
  by_cases hT : SelfN t
  · rw [if_pos hT]
    obtain ⟨h0, _, _⟩ := raw_one t hT
    obtain ⟨f1, f2⟩ := raw_first t hT
    have hsz : (rawT t).size ≤ 65538 := (raw_one t hT).2.1
    have hw : wrap64 (((rawT t).size : Int) - 1) = (((rawT t).size - 1 : Nat) : Int) := (wr64 (by omega) (by omega)).trans (by omega)
    have e : rd_T76 [(⟨t.f0, t.f1, 0⟩ : Tk)] 0 = ⟨t.f0, t.f1, 0⟩ := rfl
    have b35 : ((bt (rawT t) 0) == 35) = false := by simpa using f1
    subst hx
    rw [raw_scan t hT]
    simp only [if_true, e, hw, blank_no f2, Option.bind_some, b35]
    rw [if_pos (by rfl), if_pos (by simp), if_pos (by omega), if_pos (by omega), if_pos (by omega), if_neg (by decide), if_pos (by omega)]
    simp only [lexpriorref04_Text.j1, e]
    rw [if_neg (by decide)]
    by_cases h5 : t.f0 = 5
    · rw [if_pos h5]
    · have er : rawT t = t.f1 := by unfold rawT; rw [if_neg h5]
      rw [if_neg h5, if_pos (by simp), if_pos (by rw [er])]
  · rw [if_neg hT]
    by_cases h0 : (scanP x).2.2.1 = 0
    · rw [if_pos h0]
      by_cases h1 : ((scanP x).1.length : Int) = 1
      · rw [if_pos h1, if_pos (by omega)]
        have hself := scan_self x h0
        obtain ⟨u, hu⟩ := one_tok h1
        rw [hu] at hself ⊢
        have hsu := hself u List.mem_cons_self
        have e : rd_T76 [u] 0 = u := rfl
        rw [e]
        by_cases a : u.f0 = t.f0
        · by_cases b : u.f1.toList = t.f1.toList
          · exact absurd (self_key hsu a (ba_of b)) hT
          · rw [if_pos a, if_neg b]
        · rw [if_neg a]
      · rw [if_neg h1]
    · rw [if_neg h0]
theorem text_ref (t : Tk) (hs : t.f1.size ≤ 140737488351232) (k : Nat) (hk : 5000000001 ≤ k) : lexpriorref04_Text.f k t.f0 t.f1 t.f2 = some (textP t) := by
  unfold lexpriorref04_Text.f
  have z1 : ((⟨#[34]⟩ : ByteArray) ++ t.f1).size = 1 + t.f1.size := by simp [ByteArray.size_append]; rfl
  by_cases h5 : t.f0 = 5
  · rw [if_pos h5, z1, if_pos (by omega), if_pos (by omega)]
    exact text_j0 t _ (by unfold rawT; rw [if_pos h5]) k hk
  · rw [if_neg h5]
    exact text_j0 t _ (by unfold rawT; rw [if_neg h5]) k hk
theorem textP_size (t : Tk) : (textP t).1.size ≤ 65538 := by
  unfold textP
  split
  · next h => exact (raw_one t h).2.1
  · decide
theorem textP_err (t : Tk) (h : (textP t).2 ≠ 0) : (textP t).2 = 51 := by
  unfold textP at h ⊢
  split
  · next hh => rw [if_pos hh] at h; exact absurd rfl h
  · rfl
noncomputable def joinR : List Tk → Nat → ByteArray → ByteArray × Int × Int
  | [], i, out => if 65536 < out.size then ((⟨#[]⟩ : ByteArray), 5, (i : Int)) else (out, 0, (i : Int))
  | t :: l, i, out => if (textP t).2 = 0 then joinR l (i + 1) (if out.size ≤ 65536 then (if 0 < i then (out ++ (⟨#[32]⟩ : ByteArray)) ++ (textP t).1 else out ++ (textP t).1) else out) else ((⟨#[]⟩ : ByteArray), 51, (i : Int))
theorem join_own (k : Nat) (hk : 1 ≤ k) : ∀ (l : List Tk) (i : Nat) (acc out : ByteArray) (long : Bool), (∀ t ∈ l, t.f1.size ≤ 140737488351232) → (long = false ∧ out = acc ∧ acc.size ≤ 65536 ∨ long = true ∧ 65536 < out.size) → lexer_Join.l k l i acc long = some (joinR l i out)
  | [], i, acc, out, long, _, h => by
    rcases h with ⟨rfl, rfl, h⟩ | ⟨rfl, h⟩
    · unfold lexer_Join.l joinR
      rw [if_neg (by simp), if_neg (by omega)]
    · unfold lexer_Join.l joinR
      rw [if_pos rfl, if_pos h]
  | t :: l, i, acc, out, long, hl, h => by
    have hz := textP_size t
    have hl2 := fun x hx => hl x (List.mem_cons_of_mem t hx)
    unfold lexer_Join.l joinR
    rw [text_f t (hl t List.mem_cons_self) k hk]
    simp only [Option.bind_some]
    by_cases he : (textP t).2 = 0
    · rw [if_pos he, if_pos he, if_pos (by omega)]
      rcases h with ⟨rfl, rfl, h⟩ | ⟨rfl, h⟩
      · rw [if_pos h]
        have ee : (if 0 < i then (out ++ (⟨#[32]⟩ : ByteArray)) ++ (textP t).1 else out ++ (textP t).1) = out ++ (if 0 < i then (⟨#[32]⟩ : ByteArray) ++ (textP t).1 else (textP t).1) := by
          split
          · apply ba_ext; simp
          · rfl
        rw [ee]
        obtain ⟨x, hx⟩ : ∃ x, x = (if 0 < i then (⟨#[32]⟩ : ByteArray) ++ (textP t).1 else (textP t).1) := ⟨_, rfl⟩
        rw [← hx]
        simp only [Bool.false_or]
        by_cases hov : 65536 < out.size + x.size
        · rw [decide_eq_true hov, if_pos rfl]
          exact join_own k hk l (i + 1) _ _ _ hl2 (.inr ⟨rfl, by rw [ByteArray.size_append]; omega⟩)
        · rw [decide_eq_false hov, if_neg (by simp)]
          exact join_own k hk l (i + 1) _ _ _ hl2 (.inl ⟨rfl, rfl, by rw [ByteArray.size_append]; omega⟩)
      · rw [if_neg (show ¬ out.size ≤ 65536 by omega)]
        simp only [Bool.true_or, if_true]
        exact join_own k hk l (i + 1) _ _ _ hl2 (.inr ⟨rfl, h⟩)
    · rw [if_neg he, if_neg he, textP_err t he]
theorem rd_get (L : List Tk) (i : Nat) (h : i < L.length) : rd_T76 L (i : Int) = L[i] := by
  unfold rd_T76
  rw [Int.toNat_natCast, List.getD_eq_getElem?_getD, List.getElem?_eq_getElem h]
  rfl
theorem join_ref (L : List Tk) (hL : L.length ≤ 4398046510976) (ht : ∀ t ∈ L, t.f1.size ≤ 140737488351232) (d : Nat) : ∀ (k i : Nat) (out : ByteArray), i ≤ L.length → L.length - i = d → out.size ≤ 200000 → 5000000001 + d + 1 ≤ k → lexpriorref04_Join.l0 k L out i = some (joinR (L.drop i) i out) := by
  induction d with
  | zero =>
    intro k i out hi hd ho hk
    obtain ⟨k, rfl⟩ : ∃ m, k = m + 1 := ⟨k - 1, by omega⟩
    obtain rfl : i = L.length := by omega
    rw [List.drop_length]
    simp only [lexpriorref04_Join.l0, joinR]
    rw [if_neg (by omega)]
    by_cases h : 65536 < out.size
    · rw [if_pos (by omega), if_pos h]
    · rw [if_neg (by omega), if_neg h]
  | succ d IH =>
    intro k i out hi hd ho hk
    obtain ⟨k, rfl⟩ : ∃ m, k = m + 1 := ⟨k - 1, by omega⟩
    have h1 : i < L.length := by omega
    have hz := textP_size L[i]
    rw [List.drop_eq_getElem_cons h1]
    simp only [lexpriorref04_Join.l0, joinR, rd_get L i h1, sc64 i (by omega)]
    rw [if_pos (by omega), if_pos (by omega), text_ref L[i] (ht _ (List.getElem_mem h1)) k (by omega)]
    simp only [Option.bind_some]
    by_cases he : (textP L[i]).2 = 0
    · rw [if_pos he, if_pos he]
      by_cases ho2 : out.size ≤ 65536
      · rw [if_pos (show (out.size : Int) ≤ 65536 by omega), if_pos ho2]
        have z1 : (out ++ (⟨#[32]⟩ : ByteArray)).size = out.size + 1 := by rw [ByteArray.size_append]; rfl
        by_cases hi0 : 0 < i
        · rw [if_pos (show (i : Int) > 0 by omega), if_pos hi0, z1, if_pos (by omega), if_pos (by omega)]
          exact IH k (i + 1) _ (by omega) (by omega) (by rw [ByteArray.size_append, z1]; omega) (by omega)
        · rw [if_neg (show ¬ (i : Int) > 0 by omega), if_neg hi0, if_pos (by omega)]
          exact IH k (i + 1) _ (by omega) (by omega) (by rw [ByteArray.size_append]; omega) (by omega)
      · rw [if_neg (show ¬ (out.size : Int) ≤ 65536 by omega), if_neg ho2]
        exact IH k (i + 1) _ (by omega) (by omega) ho (by omega)
    · rw [if_neg he, if_neg he]
theorem copy_l0 (L : List Tk) (hL : L.length ≤ 4398046510976) (d : Nat) : ∀ (k i : Nat), i ≤ L.length → L.length - i = d → d + 1 ≤ k → lexpriorplain_CopyTokens.l0 k L (L.take i) i = some L := by
  induction d with
  | zero =>
    intro k i hi hd hk
    obtain ⟨k, rfl⟩ : ∃ m, k = m + 1 := ⟨k - 1, by omega⟩
    obtain rfl : i = L.length := by omega
    simp only [lexpriorplain_CopyTokens.l0]
    rw [if_neg (by omega), List.take_length]
  | succ d IH =>
    intro k i hi hd hk
    obtain ⟨k, rfl⟩ : ∃ m, k = m + 1 := ⟨k - 1, by omega⟩
    have h1 : i < L.length := by omega
    simp only [lexpriorplain_CopyTokens.l0, rd_get L i h1, sc64 i (by omega)]
    rw [if_pos (by omega), if_pos (by omega), if_pos (by rw [List.length_take]; omega)]
    have := IH k (i + 1) (by omega) (by omega) (by omega)
    rw [List.take_succ_eq_append_getElem h1] at this
    exact this
theorem same_l0 (L : List Tk) (hL : L.length ≤ 4398046510976) (d : Nat) : ∀ (k i : Nat), i ≤ L.length → L.length - i = d → d + 1 ≤ k → lexpriorplain_SameTokens.l0 k L L i = some true := by
  induction d with
  | zero =>
    intro k i hi hd hk
    obtain ⟨k, rfl⟩ : ∃ m, k = m + 1 := ⟨k - 1, by omega⟩
    simp only [lexpriorplain_SameTokens.l0]
    rw [if_neg (by omega)]
  | succ d IH =>
    intro k i hi hd hk
    obtain ⟨k, rfl⟩ : ∃ m, k = m + 1 := ⟨k - 1, by omega⟩
    simp only [lexpriorplain_SameTokens.l0, sc64 i (by omega)]
    rw [if_pos (by omega), if_pos (by omega), if_pos (by omega), if_neg (by simp)]
    exact IH k (i + 1) (by omega) (by omega) (by omega)
theorem law_l0 (L : List Tk) (hL : L.length ≤ 4398046510976) (ht : ∀ t ∈ L, t.f1.size ≤ 140737488351232) (d : Nat) : ∀ (k i : Nat), i ≤ L.length → L.length - i = d → 5000000001 + 2 * d + 4 ≤ k → lexpriorlaw04_LexerJoins.l0 k L i = some true := by
  have fin : ∀ k i, 2 ≤ k → lexpriorlaw04_LexerJoins.j2 k L i false = some true := fun k i hk => by
    obtain ⟨k, rfl⟩ : ∃ m, k = m + 1 := ⟨k - 1, by omega⟩
    simp only [lexpriorlaw04_LexerJoins.j2]
    rw [if_neg (by decide), works_ok]
    rfl
  induction d with
  | zero =>
    intro k i hi hd hk
    obtain ⟨k, rfl⟩ : ∃ m, k = m + 1 := ⟨k - 1, by omega⟩
    simp only [lexpriorlaw04_LexerJoins.l0]
    rw [if_neg (by omega)]
    exact fin k i (by omega)
  | succ d IH =>
    intro k i hi hd hk
    obtain ⟨k, rfl⟩ : ∃ m, k = m + 2 := ⟨k - 2, by omega⟩
    have h1 : i < L.length := by omega
    have hti := ht _ (List.getElem_mem h1)
    simp only [lexpriorlaw04_LexerJoins.l0]
    rw [if_pos (by omega)]
    by_cases h100 : (i : Int) < 100
    · rw [decide_eq_true h100]
      simp only [lexpriorlaw04_LexerJoins.j2, rd_get L i h1, sc64 i (by omega)]
      rw [if_pos trivial, if_pos (by omega), if_pos (by omega), text_f _ hti k (by omega), text_ref _ hti k (by omega)]
      simp only [Option.bind_some, lexpriorlaw04_num.f, if_true]
      exact IH k (i + 1) (by omega) (by omega) (by omega)
    · rw [decide_eq_false h100]
      exact fin (k + 1) i (by omega)
theorem LexerJoins : ∀ L : List Tk, WfToks L → ∃ k, lexpriorlaw04_LexerJoins.f k L = some true := by
  intro L ⟨hL0, ht⟩
  have hL : L.length ≤ 4398046510976 := by omega
  refine ⟨10000000000000, ?_⟩
  unfold lexpriorlaw04_LexerJoins.f lexpriorplain_CopyTokens.f lexpriorplain_SameTokens.f lexer_Join.f lexpriorref04_Join.f
  have e1 := copy_l0 L hL L.length 10000000000000 0 (by omega) (by omega) (by omega)
  have e2 := join_own 10000000000000 (by omega) L 0 ⟨#[]⟩ ⟨#[]⟩ false ht (.inl ⟨rfl, rfl, by decide⟩)
  have e3 := join_ref L hL ht L.length 10000000000000 0 ⟨#[]⟩ (by omega) (by omega) (by decide) (by omega)
  have e4 := same_l0 L hL L.length 10000000000000 0 (by omega) (by omega) (by omega)
  rw [List.take_zero] at e1
  rw [List.drop_zero] at e3
  rw [show (([] : List Tk)) = [] from rfl, show ((0 : Nat) : Int) = 0 from rfl] at e1
  rw [show ((0 : Nat) : Int) = 0 from rfl] at e3 e4
  rw [e1, e3]
  simp only [Option.bind_some, e2, lexpriorlaw04_num.f, if_true, e4]
  have e5 := law_l0 L hL ht L.length 9999999999999 0 (by omega) (by omega) (by omega)
  rw [show ((0 : Nat) : Int) = 0 from rfl] at e5
  rw [show (10000000000000 : Nat) = 9999999999999 + 1 from rfl]
  simp only [lexpriorlaw04_LexerJoins.j0, Bool.not_true]
  rw [if_neg (by decide)]
  exact e5
end Go.Proofs.Ytmjneidcdaapdaa.Pure
