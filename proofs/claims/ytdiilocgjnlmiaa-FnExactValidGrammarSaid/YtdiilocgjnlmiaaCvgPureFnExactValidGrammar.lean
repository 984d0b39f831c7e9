import Derived.Test.YtdiilocgjnlmiaaCvgGramLaw
import Derived.Test.YtdiilocgjnlmiaaCvgPAllx26
namespace Go.Proofs.Ytdiilocgjnlmiaa.Tre
open Go.RowKit Go.Proofs.YtdiilocgjnlmiaaW.PrintWords Go.Proofs.YtdiilocgjnlmiaaW.PrintLast
open Go.Proofs.Ytdiilocgjnlmiaa.PAll
theorem law_valid (Rs : List LRu) (Ls : List LLa) (hR : inR Rs) (hL : inL Ls) : ∃ k, laws_FnExactValidGrammar.f k Rs Ls = some true := by
  obtain ⟨k, hk⟩ : ∃ k : Nat, 3200000 < k := ⟨_, Nat.lt_succ_self _⟩
  refine ⟨k, ?_⟩
  obtain ⟨r, hr, hr2⟩ := szGrammar_f Rs Ls hR hL k hk
  rw [laws_FnExactValidGrammar.f, hr, Option.bind_some]
  rcases hr2 with h | ⟨h0, h1, h2⟩
  · rw [if_pos h]
  · have ht := toGrammar_f Rs Ls h1 h2 k hk
    have hok := okG_of (ssRs_of h1) (ssLs_of h2)
    have he := eqGrammar_f _ _ (ssRs_of h1) (ssLs_of h2) k hk
    rw [if_neg (by omega)]
    simp only [ht, Option.bind_some, spec_ValidGrammar.f, impl_ValidGrammar.f, if_pos hok, bne_self_eq_false, he]
    rfl
end Go.Proofs.Ytdiilocgjnlmiaa.Tre
