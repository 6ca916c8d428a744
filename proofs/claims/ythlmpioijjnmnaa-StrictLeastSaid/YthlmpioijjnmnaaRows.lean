/-
  No cell of these rows narrows 'for every input' (looked for: loops, veiled, ifaces, maps, wideKeys, modest, calm, conditions, laid).
  DERIVED. THE GIVEN ROWS OF THIS SEAT. 5 by the template 'for every input the law returns true; each argument reads behind the call as it read before'; 0 by the template 'total and deterministic' (their statements: YthlmpioijjnmnaaTotals.lean).
  GIVEN WITH THE SEED: the statements are not yours to turn. If you find one false, say at which input.
  Laid BY PROGRAM, IN A SANDBOX (cutbox-rows.mjs): the forced cells as the released guide's own fill.sh prints them over the translation 22eda008493c1c6d… (all of the seat's roots in one cut). By AI agents, Wed Nov 11 2026. No macro, syntax, notation, axiom, sorry.
-/
import Derived.Test.YthlmpioijjnmnaaChecked
import GoSem.Claim
import GoSem.ClaimJoined
import GoSem.ClaimMapViews
import Derived.JoinedTies
import Derived.KernelRfl
namespace Go.Proofs.Ythlmpioijjnmnaa
/- THE CELL 'sum', in the pinned program and in every row, IS THE sha256 OF THE DUMP (.gsa) THAT YthlmpioijjnmnaaProg.lean LOADS. Nothing in Lean hashes anything: it is a label: what it is worth is what the hold of that sum in a sandbox is worth. -/
noncomputable def Try.pinned : Pinned := { name := "ythlmpioijjnmnaa", sum := "22eda008493c1c6d7f0e9a4294e56db49aa028516d49941e7214a6bb7ff4fb3e", checked := Try.checked }
namespace Rows
def none {H : Type} : Left H := { results := [], args := [] }

/-- 'lexpriorlaw14.StrictMore': WHATEVER THE INPUT: true; the input reads as it did. -/
def strictMoreSpec : ChangeSpec := { name := "strictMore", fn := fun _ => fun
  | [d1, d2, d3] => { results := [.lit (.bool true)], args := [d1, d2, d3] }
  | _ => none }
def strictMoreRow : OpenClaim := { program := "ythlmpioijjnmnaa", sum := "22eda008493c1c6d7f0e9a4294e56db49aa028516d49941e7214a6bb7ff4fb3e", func := "lexprior/lexpriorlaw14.StrictMore", spec := "strictMore", unfollowed := true, recurses := true, apart := false }
def StrictMoreSaid : Prop := strictMoreRow.holds Try.pinned (OpenSpec.ofChange strictMoreSpec)

/-- ITS FALSE NEIGHBOUR: 'it returns false'. Refute it at one input. -/
def strictMoreWrong : ChangeSpec := { name := "strictMore", fn := fun _ => fun
  | [d1, d2, d3] => { results := [.lit (.bool false)], args := [d1, d2, d3] }
  | _ => none }
def StrictMoreWrongFalsely : Prop := strictMoreRow.holds Try.pinned (OpenSpec.ofChange strictMoreWrong)

/-- 'lexpriorlaw14.StrictConditions': WHATEVER THE INPUT: true; the input reads as it did. -/
def strictConditionsSpec : ChangeSpec := { name := "strictConditions", fn := fun _ => fun
  | [d1, d2] => { results := [.lit (.bool true)], args := [d1, d2] }
  | _ => none }
def strictConditionsRow : OpenClaim := { program := "ythlmpioijjnmnaa", sum := "22eda008493c1c6d7f0e9a4294e56db49aa028516d49941e7214a6bb7ff4fb3e", func := "lexprior/lexpriorlaw14.StrictConditions", spec := "strictConditions", unfollowed := true, recurses := true, apart := false }
def StrictConditionsSaid : Prop := strictConditionsRow.holds Try.pinned (OpenSpec.ofChange strictConditionsSpec)

/-- ITS FALSE NEIGHBOUR: 'it returns false'. Refute it at one input. -/
def strictConditionsWrong : ChangeSpec := { name := "strictConditions", fn := fun _ => fun
  | [d1, d2] => { results := [.lit (.bool false)], args := [d1, d2] }
  | _ => none }
def StrictConditionsWrongFalsely : Prop := strictConditionsRow.holds Try.pinned (OpenSpec.ofChange strictConditionsWrong)

/-- 'lexpriorlaw14.StrictLoops': WHATEVER THE INPUT: true; the input reads as it did. -/
def strictLoopsSpec : ChangeSpec := { name := "strictLoops", fn := fun _ => fun
  | [d1, d2, d3] => { results := [.lit (.bool true)], args := [d1, d2, d3] }
  | _ => none }
def strictLoopsRow : OpenClaim := { program := "ythlmpioijjnmnaa", sum := "22eda008493c1c6d7f0e9a4294e56db49aa028516d49941e7214a6bb7ff4fb3e", func := "lexprior/lexpriorlaw14.StrictLoops", spec := "strictLoops", unfollowed := true, recurses := true, apart := false }
def StrictLoopsSaid : Prop := strictLoopsRow.holds Try.pinned (OpenSpec.ofChange strictLoopsSpec)

/-- ITS FALSE NEIGHBOUR: 'it returns false'. Refute it at one input. -/
def strictLoopsWrong : ChangeSpec := { name := "strictLoops", fn := fun _ => fun
  | [d1, d2, d3] => { results := [.lit (.bool false)], args := [d1, d2, d3] }
  | _ => none }
def StrictLoopsWrongFalsely : Prop := strictLoopsRow.holds Try.pinned (OpenSpec.ofChange strictLoopsWrong)

/-- 'lexpriorlaw14.StrictRounds': WHATEVER THE INPUT: true; the input reads as it did. -/
def strictRoundsSpec : ChangeSpec := { name := "strictRounds", fn := fun _ => fun
  | [d1, d2] => { results := [.lit (.bool true)], args := [d1, d2] }
  | _ => none }
def strictRoundsRow : OpenClaim := { program := "ythlmpioijjnmnaa", sum := "22eda008493c1c6d7f0e9a4294e56db49aa028516d49941e7214a6bb7ff4fb3e", func := "lexprior/lexpriorlaw14.StrictRounds", spec := "strictRounds", unfollowed := true, recurses := true, apart := false }
def StrictRoundsSaid : Prop := strictRoundsRow.holds Try.pinned (OpenSpec.ofChange strictRoundsSpec)

/-- ITS FALSE NEIGHBOUR: 'it returns false'. Refute it at one input. -/
def strictRoundsWrong : ChangeSpec := { name := "strictRounds", fn := fun _ => fun
  | [d1, d2] => { results := [.lit (.bool false)], args := [d1, d2] }
  | _ => none }
def StrictRoundsWrongFalsely : Prop := strictRoundsRow.holds Try.pinned (OpenSpec.ofChange strictRoundsWrong)

/-- 'lexpriorlaw14.StrictLeast': WHATEVER THE INPUT: true; the input reads as it did. -/
def strictLeastSpec : ChangeSpec := { name := "strictLeast", fn := fun _ => fun
  | [d1, d2, d3] => { results := [.lit (.bool true)], args := [d1, d2, d3] }
  | _ => none }
def strictLeastRow : OpenClaim := { program := "ythlmpioijjnmnaa", sum := "22eda008493c1c6d7f0e9a4294e56db49aa028516d49941e7214a6bb7ff4fb3e", func := "lexprior/lexpriorlaw14.StrictLeast", spec := "strictLeast", unfollowed := true, recurses := true, apart := false }
def StrictLeastSaid : Prop := strictLeastRow.holds Try.pinned (OpenSpec.ofChange strictLeastSpec)

/-- ITS FALSE NEIGHBOUR: 'it returns false'. Refute it at one input. -/
def strictLeastWrong : ChangeSpec := { name := "strictLeast", fn := fun _ => fun
  | [d1, d2, d3] => { results := [.lit (.bool false)], args := [d1, d2, d3] }
  | _ => none }
def StrictLeastWrongFalsely : Prop := strictLeastRow.holds Try.pinned (OpenSpec.ofChange strictLeastWrong)

/- THE SECOND FORM. 'bulk': how many values and letters a reading holds, each counted each time it is reached (what is shared counts as often as it is met; a slice's spare places count too). A statement '..UptoSaid' is the law's where the arguments, and the package variables that the reading takes, are together of bulk at most 1048576: NARROWER than '..Said'. Prove '..Said' where nothing that the law and all that it calls make is longer than what came in: it says more and counts as full. Else prove '..UptoSaid'. A law counts once. -/
mutual
def uptoBulk {H : Type} : DataW H → Nat
  | .lit (.string bytes) => bytes.length + 1
  | .lit _ => 1
  | .nil => 1
  | .ptr d => uptoBulk d + 1
  | .slice elems spare => uptoBulkAll elems + uptoBulkAll spare + 1
  | .agg parts => uptoBulkAll parts + 1
  | .iface _ d => uptoBulk d + 1
  | .map entries => uptoBulkEntries entries + 1
  | .held _ => 1
def uptoBulkAll {H : Type} : List (DataW H) → Nat
  | [] => 0
  | d :: r => uptoBulk d + uptoBulkAll r
def uptoBulkEntries {H : Type} : List (Lit × DataW H) → Nat
  | [] => 0
  | x :: r => uptoBulkEntry x + uptoBulkEntries r
def uptoBulkEntry {H : Type} : Lit × DataW H → Nat
  | (.string bytes, d) => bytes.length + uptoBulk d + 1
  | (_, d) => uptoBulk d + 1
 end
def uptoSmall : (H : Type) → List (DataW H) → Bool := fun _ ds => decide (uptoBulkAll ds ≤ 1048576)
def OpenSpec.upto (s : _root_.Go.ChangeSpec) : _root_.Go.OpenSpec := { _root_.Go.OpenSpec.ofChange s with cond := some uptoSmall }

/-- 'lexpriorlaw14.StrictMore', WHERE WHAT IT READS IS OF BULK AT MOST 1048576: true; the input reads as it did. -/
def strictMoreUptoRow : OpenClaim := { program := "ythlmpioijjnmnaa", sum := "22eda008493c1c6d7f0e9a4294e56db49aa028516d49941e7214a6bb7ff4fb3e", func := "lexprior/lexpriorlaw14.StrictMore", spec := "strictMore", unfollowed := true, recurses := true, apart := false, narrowed := true }
def StrictMoreUptoSaid : Prop := strictMoreUptoRow.holds Try.pinned (OpenSpec.upto strictMoreSpec)

/-- 'lexpriorlaw14.StrictConditions', WHERE WHAT IT READS IS OF BULK AT MOST 1048576: true; the input reads as it did. -/
def strictConditionsUptoRow : OpenClaim := { program := "ythlmpioijjnmnaa", sum := "22eda008493c1c6d7f0e9a4294e56db49aa028516d49941e7214a6bb7ff4fb3e", func := "lexprior/lexpriorlaw14.StrictConditions", spec := "strictConditions", unfollowed := true, recurses := true, apart := false, narrowed := true }
def StrictConditionsUptoSaid : Prop := strictConditionsUptoRow.holds Try.pinned (OpenSpec.upto strictConditionsSpec)

/-- 'lexpriorlaw14.StrictLoops', WHERE WHAT IT READS IS OF BULK AT MOST 1048576: true; the input reads as it did. -/
def strictLoopsUptoRow : OpenClaim := { program := "ythlmpioijjnmnaa", sum := "22eda008493c1c6d7f0e9a4294e56db49aa028516d49941e7214a6bb7ff4fb3e", func := "lexprior/lexpriorlaw14.StrictLoops", spec := "strictLoops", unfollowed := true, recurses := true, apart := false, narrowed := true }
def StrictLoopsUptoSaid : Prop := strictLoopsUptoRow.holds Try.pinned (OpenSpec.upto strictLoopsSpec)

/-- 'lexpriorlaw14.StrictRounds', WHERE WHAT IT READS IS OF BULK AT MOST 1048576: true; the input reads as it did. -/
def strictRoundsUptoRow : OpenClaim := { program := "ythlmpioijjnmnaa", sum := "22eda008493c1c6d7f0e9a4294e56db49aa028516d49941e7214a6bb7ff4fb3e", func := "lexprior/lexpriorlaw14.StrictRounds", spec := "strictRounds", unfollowed := true, recurses := true, apart := false, narrowed := true }
def StrictRoundsUptoSaid : Prop := strictRoundsUptoRow.holds Try.pinned (OpenSpec.upto strictRoundsSpec)

/-- 'lexpriorlaw14.StrictLeast', WHERE WHAT IT READS IS OF BULK AT MOST 1048576: true; the input reads as it did. -/
def strictLeastUptoRow : OpenClaim := { program := "ythlmpioijjnmnaa", sum := "22eda008493c1c6d7f0e9a4294e56db49aa028516d49941e7214a6bb7ff4fb3e", func := "lexprior/lexpriorlaw14.StrictLeast", spec := "strictLeast", unfollowed := true, recurses := true, apart := false, narrowed := true }
def StrictLeastUptoSaid : Prop := strictLeastUptoRow.holds Try.pinned (OpenSpec.upto strictLeastSpec)

end Rows
end Go.Proofs.Ythlmpioijjnmnaa
