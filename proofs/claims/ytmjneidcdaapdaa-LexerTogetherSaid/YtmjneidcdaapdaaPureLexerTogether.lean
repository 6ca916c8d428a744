/- LexerTogether, plainly: what both parts tell, the whole tells. -/
import Derived.Test.YtmjneidcdaapdaaLexU
import Derived.Test.YtmjneidcdaapdaaLexS
import Derived.Test.YtmjneidcdaapdaaPx6
namespace Go.Proofs.Ytmjneidcdaapdaa.Pure
open Go.RowKit Go.Proofs.Ytmjneidcdaapdaa.P Go.Proofs.YtmjneidcdaapdaaW.PrintWords Go.Proofs.YtmjneidcdaapdaaW.PrintLast
theorem works_ok : lexpriorlaw04_works.f = some true := by kernel_rfl
theorem but_l0 (x y : List Tk) (hl : x.length ≤ 1000000) (hxy : x.length = y.length) (hs : ∀ i : Nat, i < x.length → (rd_T76 x i).f0 = (rd_T76 y i).f0 ∧ (rd_T76 x i).f1 = (rd_T76 y i).f1) (d : Nat) : ∀ (k i : Nat), i ≤ x.length → x.length - i = d → d + 1 ≤ k → lexpriorlaw04_sameButAt.l0 k x y i = some true := by
  induction d with
  | zero =>
    intro k i hi hd hk
    obtain ⟨k, rfl⟩ : ∃ m, k = m + 1 := ⟨k - 1, by omega⟩
    simp only [lexpriorlaw04_sameButAt.l0]
    rw [if_neg (by omega)]
  | succ d IH =>
    intro k i hi hd hk
    obtain ⟨k, rfl⟩ : ∃ m, k = m + 1 := ⟨k - 1, by omega⟩
    obtain ⟨h1, h2⟩ := hs i (by omega)
    simp only [lexpriorlaw04_sameButAt.l0, sc64 i (by omega)]
    rw [if_pos (by omega), if_pos (by omega), if_pos (by omega), if_pos h1, if_pos (by rw [h2])]
    exact IH k (i + 1) (by omega) (by omega) (by omega)
theorem but_sh (x y : List Tk) (c : Nat) (hl : (x ++ y).length ≤ 1000000) (k : Nat) (hk : 1000001 ≤ k) : lexpriorlaw04_sameButAt.f k (x ++ y) (x ++ y.map (shT c)) = some true := by
  unfold lexpriorlaw04_sameButAt.f
  have hlen : (x ++ y).length = (x ++ y.map (shT c)).length := by simp
  rw [if_pos (by rw [hlen])]
  refine but_l0 _ _ hl hlen (fun i hi => ?_) _ k 0 (Nat.zero_le _) rfl (by omega)
  unfold rd_T76
  simp only [Int.toNat_natCast, List.getD_eq_getElem?_getD]
  by_cases e : i < x.length
  · rw [List.getElem?_append_left e, List.getElem?_append_left e]
    exact ⟨rfl, rfl⟩
  · rw [List.getElem?_append_right (by omega), List.getElem?_append_right (by omega), List.getElem?_map]
    rcases y[i - x.length]? with _ | z
    · exact ⟨rfl, rfl⟩
    · exact ⟨rfl, rfl⟩
theorem LexerTogether : lexpriorlaw04_LexerTogether.Pure := by
  intro a b ha hb
  have hg := glue a b
  have hsz := hg.size
  obtain ⟨s, hs⟩ : ∃ s, s = (a ++ (⟨#[10]⟩ : ByteArray)) ++ b := ⟨_, rfl⟩
  refine ⟨5000001, ?_⟩
  unfold lexpriorlaw04_LexerTogether.f lexer_Tokens.f lexer_Remarks.f
  rw [works_ok]
  have w1 : wrap64 (wrap64 ((a.size : Int) + (b.size : Int)) + 1) = ((a.size + b.size + 1 : Nat) : Int) := by
    rw [wr64 (x := (a.size : Int) + b.size) (by omega) (by omega), wr64 (by omega) (by omega)]
    omega
  have z1 : (a ++ (⟨#[10]⟩ : ByteArray)).size = a.size + 1 := by simp [ByteArray.size_append]; rfl
  simp only [Option.bind_some, if_true, w1, z1, ← hs]
  rw [← hs] at hg hsz
  rw [if_pos (by omega), if_pos (by omega)]
  by_cases hbig : 65536 < a.size + b.size + 1
  · rw [if_pos (by omega)]
    have : scanP s = ([], [], 5, 0) := by unfold scanP; rw [if_pos (by omega)]
    rw [this]
    rfl
  · rw [if_neg (by omega)]
    have pa : scanP a = scanF a 0 [] [] := by unfold scanP; rw [if_neg (by omega)]
    have pb : scanP b = scanF b 0 [] [] := by unfold scanP; rw [if_neg (by omega)]
    have ps : scanP s = scanF s 0 [] [] := by unfold scanP; rw [if_neg (by omega)]
    obtain ⟨la, lra⟩ := scanP_len a
    obtain ⟨lb, lrb⟩ := scanP_len b
    obtain ⟨s1, s2⟩ := hg.scan1 a.size 0 [] [] (Nat.zero_le _) (by omega)
    rw [← pa, ← ps] at s1 s2
    have hbad : (scanP s).2.2.1 ≠ 0 ∧ (scanP s).1 = [] → lexpriorlaw04_LexerTogether.j0 5000001 (scanP a).1 (scanP b).1 (scanP s).1 (scanP s).2.2.1 (scanP a).2.1 (scanP b).2.1 (scanP s).2.1 true = some true := fun ⟨x1, x2⟩ => by
      show lexpriorlaw04_LexerTogether.j0 (5000000 + 1) _ _ _ _ _ _ _ _ = _
      simp only [lexpriorlaw04_LexerTogether.j0, if_true]
      rw [if_neg x1, x2]
      rfl
    by_cases ea : (scanP a).2.2.1 = 0
    · rw [if_pos ea]
      have s1 := s1 ea
      obtain ⟨t1, t2⟩ := hg.scan2 b.size 0 (scanP a).1 [] (scanP a).2.1 [] (Nat.zero_le _) (by omega)
      rw [← pb, Nat.add_zero, ← s1] at t1 t2
      by_cases eb : (scanP b).2.2.1 = 0
      · obtain ⟨dT, dR, f1, f2, f3, f4, f5⟩ := t1 eb
        simp only [List.nil_append] at f1 f2
        rw [eb]
        show lexpriorlaw04_LexerTogether.j0 (5000000 + 1) _ _ _ _ _ _ _ _ = _
        have l1 : ([] ++ (scanP a).1 : List Tk).length + (scanP b).1.length < 4398046511104 := by simp; omega
        have l2 : ([] ++ (scanP a).2.1 : List ByteArray).length + (scanP b).2.1.length < 8796093022208 := by simp; omega
        simp only [lexpriorlaw04_LexerTogether.j0, Option.bind_some, bne_self_eq_false, Bool.false_eq_true, if_false]
        rw [if_pos f3, if_pos (by simp; omega), if_pos l1, f4, ← f1]
        simp only [List.nil_append]
        rw [but_sh _ _ _ (by simp; omega) _ (by omega)]
        simp only [Option.bind_some, if_true]
        rw [if_pos (by simp; omega), if_pos (by simpa using l2), f5, ← f2, sameR _ (by simp; omega) _ (by omega)]
        rfl
      · have hx : ((scanP b).2.2.1 != 0) = true := by simpa using eb
        rw [hx]
        exact hbad (t2 eb)
    · rw [if_neg ea]
      exact hbad (s2 ea)
end Go.Proofs.Ytmjneidcdaapdaa.Pure
