/- LexerCuts, plainly: both cut a text alike. -/
import Derived.Test.YtmjneidcdaapdaaLexS
import Derived.Test.YtmjneidcdaapdaaPx6
namespace Go.Proofs.Ytmjneidcdaapdaa.Pure
open Go.RowKit Go.Proofs.Ytmjneidcdaapdaa.P Go.Proofs.YtmjneidcdaapdaaW.PrintWords Go.Proofs.YtmjneidcdaapdaaW.PrintLast
theorem works_ok : lexpriorlaw04_works.f = some true := by kernel_rfl
theorem LexerCuts : lexpriorlaw04_LexerCuts.Pure := by
  intro s hs
  refine ⟨5000000000, ?_⟩
  unfold lexpriorlaw04_LexerCuts.f lexer_Tokens.f lexer_Remarks.f
  obtain ⟨h1, h2⟩ := scanP_len s
  rw [tokens_ref s _ (Nat.le_refl _), remarks_ref s _ (Nat.le_refl _), works_ok]
  simp only [Option.bind_some, lexpriorlaw04_num.f]
  rw [sameT _ h1 _ (by omega), sameR _ (by omega) _ (by omega)]
  simp only [Option.bind_some, if_true]
end Go.Proofs.Ytmjneidcdaapdaa.Pure
