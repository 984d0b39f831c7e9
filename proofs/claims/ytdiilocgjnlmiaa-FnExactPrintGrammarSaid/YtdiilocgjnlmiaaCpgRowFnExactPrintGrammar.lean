import Derived.Test.YtdiilocgjnlmiaaCpgMarkFlat
import Derived.Test.YtdiilocgjnlmiaaCpgPrintAll
import Derived.WalkKit
import Derived.ProofKit
import Derived.OpenShut
import Derived.ShutString
import Derived.ChangeOld
import Derived.Below
import Derived.SizedLaws
import Derived.Lib.SmallJoins
namespace Go.Proofs.Ytdiilocgjnlmiaa.fnExactPrintGrammar
open Go.ChangeShapes Go.WideShapes Go.ChangeAt Go.RowKit Go.Proofs.YtdiilocgjnlmiaaW.PrintWords Go.Proofs.Ytdiilocgjnlmiaa.Open Go.Proofs.Ytdiilocgjnlmiaa.PAll Go.Proofs.Ytdiilocgjnlmiaa.Tre
set_option linter.unusedVariables false
theorem own : ownKnob Try.prog.godebug = none := by kernel_rfl
theorem laidOut : laidOutB Try.prog = true := by kernel_rfl
set_option maxRecDepth 100000 in
theorem lifted (os : Os) (started : os.Started) (H : Type) (enc : TypeId × Value → H) :
 ReturnsInHanded {} Try.checked os 8 .any (Rows.fnExactPrintGrammarSpec.pre6 enc Try.prog Try.f8 Rows.fnExactPrintGrammarRow.domain false) (Rows.fnExactPrintGrammarSpec.post enc Try.prog Try.f8 false true false false) := by
 refine returnsInHanded_of_change_sized (C := Try.checked) own started (by kernel_rfl) Try.func8
  (ChangeSpec.witness6 (enc := enc) (C := Try.checked) false ⟨#[], #[.agg #[.slice none 0 0, .slice none 0 0]], []⟩ 8 (by kernel_rfl) (by kernel_rfl) (by kernel_rfl) (by kernel_rfl)) ?_
 intro W base args ds gs before hval0 hW hcnd hsz0 _
 have hval : ∀ (j : Nat) t v, Try.f8.params[j]? = some t → args[j]? = some v → Value.okWide Try.prog W .any base t v := hval0
 have hW' := hW
 obtain ⟨p, q, hA0, hV, rfl, hfz, hnd⟩ := hW
 have hA : DataW.TrodAll enc Try.prog W 0 (fun _ => true) true Try.f8.params.toList args.toList ds p := hA0
 rw [Try.params8] at hA hval
 obtain ⟨v0, vs0, d0, ds0, p0, q0, hargs, rfl, rfl, h0, r0⟩ := trodAll_cons hA
 obtain ⟨rfl, rfl, rfl⟩ := trodAll_nil r0
 obtain rfl : args = #[v0] := by cases args; simp_all
 obtain ⟨rfl, rfl⟩ := trodVars_none hV
 have k0 := h0
 have lt0 : ∀ x ∈ p0, x.block < W.heap.size := by obtain ⟨m, hm⟩ := k0; exact DataW.trod_lt m _ _ _ hm
 obtain ⟨u0, u1, y0, y1, n, rfl, _, _, t0, t1⟩ := Go.Joins.open_agg2 Try.underlying25 (by kernel_rfl) (by kernel_rfl) (hval 0 25 v0 rfl rfl) h0
 obtain ⟨Rs, hK0, hR⟩ := opens_rules n _ _ t0
 obtain ⟨Ls, hK1, hL⟩ := opens_labels n _ _ t1
 obtain ⟨A0, c0, e0, hc0, hR0⟩ := hK0
 obtain ⟨A1, c1, e1, hc1, hR1⟩ := hK1
 injection e0 with e0 _
 injection e1 with e1 _
 subst e0 e1
 clear hA0 hval0 hsz0
 refine (law_print_in W A0 A1 c0 c1 Rs Ls hR0 hc0 hR1 hc1 hR hL).mono fun e W' ⟨he, bel⟩ => ?_
 subst he
 exact ⟨_, rfl, _, _, _, [], _, [], hW', trodAll_mk1 (shut_bool Try.underlying4 _), (trodAll_cons_mk (Below.trod laidOut (by kernel_rfl) (of_decide_eq_true (by kernel_rfl)) k0 bel lt0) trodAll_mk0), rfl, bel.frame _, fun h => by cases h⟩
set_option maxHeartbeats 40000000 in
theorem closed : joinedFacts Try.pinned.checked.prog 8 Try.f8 Rows.fnExactPrintGrammarSpec Rows.fnExactPrintGrammarRow = true := by
 unfold joinedFacts
 repeat' (with_reducible refine Bool.and_eq_true_iff.mpr ⟨?_, ?_⟩)
 all_goals (as_aux_lemma => kernel_rfl)
theorem over : Rows.fnExactPrintGrammarRow.holds Try.pinned (OpenSpec.ofChange Rows.fnExactPrintGrammarSpec) :=
 OpenClaim.holds_of_wide 8 Try.f8 rfl rfl rfl rfl rfl rfl rfl ⟨rfl, rfl, rfl, rfl, rfl⟩ rfl rfl rfl rfl rfl (by as_aux_lemma => kernel_rfl) Try.func8 closed
  (of_decide_eq_true (by as_aux_lemma => kernel_rfl)) (by unfold Func.isWrapper; first | (rw [if_pos (by decide +kernel)]; kernel_rfl) | (rw [if_neg (by decide +kernel)]; exact ⟨rfl, rfl⟩))
  (fun os started H enc _ => lifted os started H enc)
theorem proved : Rows.FnExactPrintGrammarSaid := over
end Go.Proofs.Ytdiilocgjnlmiaa.fnExactPrintGrammar
namespace Go.Proofs.Ytdiilocgjnlmiaa
theorem fnExactPrintGrammar_holds : Rows.FnExactPrintGrammarSaid := fnExactPrintGrammar.proved
end Go.Proofs.Ytdiilocgjnlmiaa
