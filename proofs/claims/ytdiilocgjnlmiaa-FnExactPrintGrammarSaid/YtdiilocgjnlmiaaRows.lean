/-
  No cell of these rows narrows 'for every input' (looked for: loops, veiled, ifaces, maps, wideKeys, modest, calm, conditions, laid).
  DERIVED. THE GIVEN ROWS OF THIS SEAT. 7 by the template 'for every input the law returns true; each argument reads behind the call as it read before'; 0 by the template 'total and deterministic' (their statements: YtdiilocgjnlmiaaTotals.lean).
  GIVEN WITH THE SEED: the statements are not yours to turn. If you find one false, say at which input.
  Laid BY PROGRAM, IN A SANDBOX (cutbox-rows.mjs): the forced cells as the released guide's own fill.sh prints them over the translation 1bfb9da85822375c… (all of the seat's roots in one cut). By AI agents, Wed Nov 11 2026. No macro, syntax, notation, axiom, sorry.
-/
import Derived.Test.YtdiilocgjnlmiaaChecked
import GoSem.Claim
import GoSem.ClaimJoined
import GoSem.ClaimMapViews
import Derived.JoinedTies
import Derived.KernelRfl
namespace Go.Proofs.Ytdiilocgjnlmiaa
/- THE CELL 'sum', in the pinned program and in every row, IS THE sha256 OF THE DUMP (.gsa) THAT YtdiilocgjnlmiaaProg.lean LOADS. Nothing in Lean hashes anything: it is a label: what it is worth is what the hold of that sum in a sandbox is worth. -/
noncomputable def Try.pinned : Pinned := { name := "ytdiilocgjnlmiaa", sum := "1bfb9da85822375c8209efe8e2843ef1b6efbbfdc9bf82ad56b3ada74f1f70e0", checked := Try.checked }
namespace Rows
def none {H : Type} : Left H := { results := [], args := [] }

/-- 'laws.FnExactValidGrammar': WHATEVER THE INPUT: true; the input reads as it did. -/
def fnExactValidGrammarSpec : ChangeSpec := { name := "fnExactValidGrammar", fn := fun _ => fun
  | [d] => { results := [.lit (.bool true)], args := [d] }
  | _ => none }
def fnExactValidGrammarRow : OpenClaim := { program := "ytdiilocgjnlmiaa", sum := "1bfb9da85822375c8209efe8e2843ef1b6efbbfdc9bf82ad56b3ada74f1f70e0", func := "loop.example/s0055/laws.FnExactValidGrammar", spec := "fnExactValidGrammar", inPlace := ["internal/bytealg.Compare"], unfollowed := true, recurses := true, apart := false }
def FnExactValidGrammarSaid : Prop := fnExactValidGrammarRow.holds Try.pinned (OpenSpec.ofChange fnExactValidGrammarSpec)

/-- ITS FALSE NEIGHBOUR: 'it returns false'. Refute it at one input. -/
def fnExactValidGrammarWrong : ChangeSpec := { name := "fnExactValidGrammar", fn := fun _ => fun
  | [d] => { results := [.lit (.bool false)], args := [d] }
  | _ => none }
def FnExactValidGrammarWrongFalsely : Prop := fnExactValidGrammarRow.holds Try.pinned (OpenSpec.ofChange fnExactValidGrammarWrong)

/-- 'laws.FnExactRun': WHATEVER THE INPUT: true; the input reads as it did. -/
def fnExactRunSpec : ChangeSpec := { name := "fnExactRun", fn := fun _ => fun
  | [d1, d2, d3, d4] => { results := [.lit (.bool true)], args := [d1, d2, d3, d4] }
  | _ => none }
def fnExactRunRow : OpenClaim := { program := "ytdiilocgjnlmiaa", sum := "1bfb9da85822375c8209efe8e2843ef1b6efbbfdc9bf82ad56b3ada74f1f70e0", func := "loop.example/s0055/laws.FnExactRun", spec := "fnExactRun", unfollowed := true, recurses := true, apart := false }
def FnExactRunSaid : Prop := fnExactRunRow.holds Try.pinned (OpenSpec.ofChange fnExactRunSpec)

/-- ITS FALSE NEIGHBOUR: 'it returns false'. Refute it at one input. -/
def fnExactRunWrong : ChangeSpec := { name := "fnExactRun", fn := fun _ => fun
  | [d1, d2, d3, d4] => { results := [.lit (.bool false)], args := [d1, d2, d3, d4] }
  | _ => none }
def FnExactRunWrongFalsely : Prop := fnExactRunRow.holds Try.pinned (OpenSpec.ofChange fnExactRunWrong)

/-- 'laws.FnExactErase': WHATEVER THE INPUT: true; the input reads as it did. -/
def fnExactEraseSpec : ChangeSpec := { name := "fnExactErase", fn := fun _ => fun
  | [d] => { results := [.lit (.bool true)], args := [d] }
  | _ => none }
def fnExactEraseRow : OpenClaim := { program := "ytdiilocgjnlmiaa", sum := "1bfb9da85822375c8209efe8e2843ef1b6efbbfdc9bf82ad56b3ada74f1f70e0", func := "loop.example/s0055/laws.FnExactErase", spec := "fnExactErase", inPlace := ["internal/bytealg.Compare"], unfollowed := true, recurses := true, apart := false }
def FnExactEraseSaid : Prop := fnExactEraseRow.holds Try.pinned (OpenSpec.ofChange fnExactEraseSpec)

/-- ITS FALSE NEIGHBOUR: 'it returns false'. Refute it at one input. -/
def fnExactEraseWrong : ChangeSpec := { name := "fnExactErase", fn := fun _ => fun
  | [d] => { results := [.lit (.bool false)], args := [d] }
  | _ => none }
def FnExactEraseWrongFalsely : Prop := fnExactEraseRow.holds Try.pinned (OpenSpec.ofChange fnExactEraseWrong)

/-- 'laws.FnExactNullable': WHATEVER THE INPUT: true; the input reads as it did. -/
def fnExactNullableSpec : ChangeSpec := { name := "fnExactNullable", fn := fun _ => fun
  | [d] => { results := [.lit (.bool true)], args := [d] }
  | _ => none }
def fnExactNullableRow : OpenClaim := { program := "ytdiilocgjnlmiaa", sum := "1bfb9da85822375c8209efe8e2843ef1b6efbbfdc9bf82ad56b3ada74f1f70e0", func := "loop.example/s0055/laws.FnExactNullable", spec := "fnExactNullable", inPlace := ["internal/bytealg.Compare"], unfollowed := true, recurses := true, apart := false }
def FnExactNullableSaid : Prop := fnExactNullableRow.holds Try.pinned (OpenSpec.ofChange fnExactNullableSpec)

/-- ITS FALSE NEIGHBOUR: 'it returns false'. Refute it at one input. -/
def fnExactNullableWrong : ChangeSpec := { name := "fnExactNullable", fn := fun _ => fun
  | [d] => { results := [.lit (.bool false)], args := [d] }
  | _ => none }
def FnExactNullableWrongFalsely : Prop := fnExactNullableRow.holds Try.pinned (OpenSpec.ofChange fnExactNullableWrong)

/-- 'laws.FnExactCheck': WHATEVER THE INPUT: true; the input reads as it did. -/
def fnExactCheckSpec : ChangeSpec := { name := "fnExactCheck", fn := fun _ => fun
  | [d] => { results := [.lit (.bool true)], args := [d] }
  | _ => none }
def fnExactCheckRow : OpenClaim := { program := "ytdiilocgjnlmiaa", sum := "1bfb9da85822375c8209efe8e2843ef1b6efbbfdc9bf82ad56b3ada74f1f70e0", func := "loop.example/s0055/laws.FnExactCheck", spec := "fnExactCheck", inPlace := ["internal/bytealg.Compare"], unfollowed := true, recurses := true, apart := false }
def FnExactCheckSaid : Prop := fnExactCheckRow.holds Try.pinned (OpenSpec.ofChange fnExactCheckSpec)

/-- ITS FALSE NEIGHBOUR: 'it returns false'. Refute it at one input. -/
def fnExactCheckWrong : ChangeSpec := { name := "fnExactCheck", fn := fun _ => fun
  | [d] => { results := [.lit (.bool false)], args := [d] }
  | _ => none }
def FnExactCheckWrongFalsely : Prop := fnExactCheckRow.holds Try.pinned (OpenSpec.ofChange fnExactCheckWrong)

/-- 'laws.FnExactPrintGrammar': WHATEVER THE INPUT: true; the input reads as it did. -/
def fnExactPrintGrammarSpec : ChangeSpec := { name := "fnExactPrintGrammar", fn := fun _ => fun
  | [d] => { results := [.lit (.bool true)], args := [d] }
  | _ => none }
def fnExactPrintGrammarRow : OpenClaim := { program := "ytdiilocgjnlmiaa", sum := "1bfb9da85822375c8209efe8e2843ef1b6efbbfdc9bf82ad56b3ada74f1f70e0", func := "loop.example/s0055/laws.FnExactPrintGrammar", spec := "fnExactPrintGrammar", inPlace := ["internal/bytealg.Compare", "internal/bytealg.IndexByteString", "internal/abi.NoEscape"], unfollowed := true, recurses := true, apart := false }
def FnExactPrintGrammarSaid : Prop := fnExactPrintGrammarRow.holds Try.pinned (OpenSpec.ofChange fnExactPrintGrammarSpec)

/-- ITS FALSE NEIGHBOUR: 'it returns false'. Refute it at one input. -/
def fnExactPrintGrammarWrong : ChangeSpec := { name := "fnExactPrintGrammar", fn := fun _ => fun
  | [d] => { results := [.lit (.bool false)], args := [d] }
  | _ => none }
def FnExactPrintGrammarWrongFalsely : Prop := fnExactPrintGrammarRow.holds Try.pinned (OpenSpec.ofChange fnExactPrintGrammarWrong)

/-- 'laws.FnExactCompile': WHATEVER THE INPUT: true; the input reads as it did. -/
def fnExactCompileSpec : ChangeSpec := { name := "fnExactCompile", fn := fun _ => fun
  | [d] => { results := [.lit (.bool true)], args := [d] }
  | _ => none }
def fnExactCompileRow : OpenClaim := { program := "ytdiilocgjnlmiaa", sum := "1bfb9da85822375c8209efe8e2843ef1b6efbbfdc9bf82ad56b3ada74f1f70e0", func := "loop.example/s0055/laws.FnExactCompile", spec := "fnExactCompile", inPlace := ["internal/bytealg.Compare"], unfollowed := true, recurses := true, apart := false }
def FnExactCompileSaid : Prop := fnExactCompileRow.holds Try.pinned (OpenSpec.ofChange fnExactCompileSpec)

/-- ITS FALSE NEIGHBOUR: 'it returns false'. Refute it at one input. -/
def fnExactCompileWrong : ChangeSpec := { name := "fnExactCompile", fn := fun _ => fun
  | [d] => { results := [.lit (.bool false)], args := [d] }
  | _ => none }
def FnExactCompileWrongFalsely : Prop := fnExactCompileRow.holds Try.pinned (OpenSpec.ofChange fnExactCompileWrong)

/- THE SECOND FORM. 'bulk': how many values and letters a reading holds, each counted each time it is reached (what is shared counts as often as it is met; a slice's spare places count too). A statement '..UptoSaid' is the law's where the arguments, and the package variables that the reading takes, are together of bulk at most 1048576: NARROWER than '..Said'. Prove '..Said' where nothing that the law and all that it calls make is longer than what came in: it says more and counts as full. Else prove '..UptoSaid'. A law counts once. -/
mutual
def uptoBulk {H : Type} : DataW H → Nat
  | .lit (.string bytes) => bytes.length + 1
  | .lit _ => 1
  | .nil => 1
  | .ptr d => uptoBulk d + 1
  | .slice elems spare => uptoBulkAll elems + uptoBulkAll spare + 1
  | .agg parts => uptoBulkAll parts + 1
  | .iface _ d => uptoBulk d + 1
  | .map entries => uptoBulkEntries entries + 1
  | .held _ => 1
def uptoBulkAll {H : Type} : List (DataW H) → Nat
  | [] => 0
  | d :: r => uptoBulk d + uptoBulkAll r
def uptoBulkEntries {H : Type} : List (Lit × DataW H) → Nat
  | [] => 0
  | x :: r => uptoBulkEntry x + uptoBulkEntries r
def uptoBulkEntry {H : Type} : Lit × DataW H → Nat
  | (.string bytes, d) => bytes.length + uptoBulk d + 1
  | (_, d) => uptoBulk d + 1
 end
def uptoSmall : (H : Type) → List (DataW H) → Bool := fun _ ds => decide (uptoBulkAll ds ≤ 1048576)
def OpenSpec.upto (s : _root_.Go.ChangeSpec) : _root_.Go.OpenSpec := { _root_.Go.OpenSpec.ofChange s with cond := some uptoSmall }

/-- 'laws.FnExactValidGrammar', WHERE WHAT IT READS IS OF BULK AT MOST 1048576: true; the input reads as it did. -/
def fnExactValidGrammarUptoRow : OpenClaim := { program := "ytdiilocgjnlmiaa", sum := "1bfb9da85822375c8209efe8e2843ef1b6efbbfdc9bf82ad56b3ada74f1f70e0", func := "loop.example/s0055/laws.FnExactValidGrammar", spec := "fnExactValidGrammar", inPlace := ["internal/bytealg.Compare"], unfollowed := true, recurses := true, apart := false, narrowed := true }
def FnExactValidGrammarUptoSaid : Prop := fnExactValidGrammarUptoRow.holds Try.pinned (OpenSpec.upto fnExactValidGrammarSpec)

/-- 'laws.FnExactRun', WHERE WHAT IT READS IS OF BULK AT MOST 1048576: true; the input reads as it did. -/
def fnExactRunUptoRow : OpenClaim := { program := "ytdiilocgjnlmiaa", sum := "1bfb9da85822375c8209efe8e2843ef1b6efbbfdc9bf82ad56b3ada74f1f70e0", func := "loop.example/s0055/laws.FnExactRun", spec := "fnExactRun", unfollowed := true, recurses := true, apart := false, narrowed := true }
def FnExactRunUptoSaid : Prop := fnExactRunUptoRow.holds Try.pinned (OpenSpec.upto fnExactRunSpec)

/-- 'laws.FnExactErase', WHERE WHAT IT READS IS OF BULK AT MOST 1048576: true; the input reads as it did. -/
def fnExactEraseUptoRow : OpenClaim := { program := "ytdiilocgjnlmiaa", sum := "1bfb9da85822375c8209efe8e2843ef1b6efbbfdc9bf82ad56b3ada74f1f70e0", func := "loop.example/s0055/laws.FnExactErase", spec := "fnExactErase", inPlace := ["internal/bytealg.Compare"], unfollowed := true, recurses := true, apart := false, narrowed := true }
def FnExactEraseUptoSaid : Prop := fnExactEraseUptoRow.holds Try.pinned (OpenSpec.upto fnExactEraseSpec)

/-- 'laws.FnExactNullable', WHERE WHAT IT READS IS OF BULK AT MOST 1048576: true; the input reads as it did. -/
def fnExactNullableUptoRow : OpenClaim := { program := "ytdiilocgjnlmiaa", sum := "1bfb9da85822375c8209efe8e2843ef1b6efbbfdc9bf82ad56b3ada74f1f70e0", func := "loop.example/s0055/laws.FnExactNullable", spec := "fnExactNullable", inPlace := ["internal/bytealg.Compare"], unfollowed := true, recurses := true, apart := false, narrowed := true }
def FnExactNullableUptoSaid : Prop := fnExactNullableUptoRow.holds Try.pinned (OpenSpec.upto fnExactNullableSpec)

/-- 'laws.FnExactCheck', WHERE WHAT IT READS IS OF BULK AT MOST 1048576: true; the input reads as it did. -/
def fnExactCheckUptoRow : OpenClaim := { program := "ytdiilocgjnlmiaa", sum := "1bfb9da85822375c8209efe8e2843ef1b6efbbfdc9bf82ad56b3ada74f1f70e0", func := "loop.example/s0055/laws.FnExactCheck", spec := "fnExactCheck", inPlace := ["internal/bytealg.Compare"], unfollowed := true, recurses := true, apart := false, narrowed := true }
def FnExactCheckUptoSaid : Prop := fnExactCheckUptoRow.holds Try.pinned (OpenSpec.upto fnExactCheckSpec)

/-- 'laws.FnExactPrintGrammar', WHERE WHAT IT READS IS OF BULK AT MOST 1048576: true; the input reads as it did. -/
def fnExactPrintGrammarUptoRow : OpenClaim := { program := "ytdiilocgjnlmiaa", sum := "1bfb9da85822375c8209efe8e2843ef1b6efbbfdc9bf82ad56b3ada74f1f70e0", func := "loop.example/s0055/laws.FnExactPrintGrammar", spec := "fnExactPrintGrammar", inPlace := ["internal/bytealg.Compare", "internal/bytealg.IndexByteString", "internal/abi.NoEscape"], unfollowed := true, recurses := true, apart := false, narrowed := true }
def FnExactPrintGrammarUptoSaid : Prop := fnExactPrintGrammarUptoRow.holds Try.pinned (OpenSpec.upto fnExactPrintGrammarSpec)

/-- 'laws.FnExactCompile', WHERE WHAT IT READS IS OF BULK AT MOST 1048576: true; the input reads as it did. -/
def fnExactCompileUptoRow : OpenClaim := { program := "ytdiilocgjnlmiaa", sum := "1bfb9da85822375c8209efe8e2843ef1b6efbbfdc9bf82ad56b3ada74f1f70e0", func := "loop.example/s0055/laws.FnExactCompile", spec := "fnExactCompile", inPlace := ["internal/bytealg.Compare"], unfollowed := true, recurses := true, apart := false, narrowed := true }
def FnExactCompileUptoSaid : Prop := fnExactCompileUptoRow.holds Try.pinned (OpenSpec.upto fnExactCompileSpec)

end Rows
end Go.Proofs.Ytdiilocgjnlmiaa
