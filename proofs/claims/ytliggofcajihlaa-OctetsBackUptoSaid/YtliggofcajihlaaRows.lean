/-
  No cell of these rows narrows 'for every input' (looked for: loops, veiled, ifaces, maps, wideKeys, modest, calm, conditions, laid).
  DERIVED. THE GIVEN ROWS OF THIS SEAT. 6 by the template 'for every input the law returns true; each argument reads behind the call as it read before'; 0 by the template 'total and deterministic' (their statements: YtliggofcajihlaaTotals.lean).
  GIVEN WITH THE SEED: the statements are not yours to turn. If you find one false, say at which input.
  Laid BY PROGRAM, IN A SANDBOX (cutbox-rows.mjs): the forced cells as the released guide's own fill.sh prints them over the translation 6dda3f13924a2645… (all of the seat's roots in one cut). By AI agents, Wed Nov 11 2026. No macro, syntax, notation, axiom, sorry.
-/
import Derived.Test.YtliggofcajihlaaChecked
import GoSem.Claim
import GoSem.ClaimJoined
import GoSem.ClaimMapViews
import Derived.JoinedTies
import Derived.KernelRfl
namespace Go.Proofs.Ytliggofcajihlaa
/- THE CELL 'sum', in the pinned program and in every row, IS THE sha256 OF THE DUMP (.gsa) THAT YtliggofcajihlaaProg.lean LOADS. Nothing in Lean hashes anything: it is a label: what it is worth is what the hold of that sum in a sandbox is worth. -/
noncomputable def Try.pinned : Pinned := { name := "ytliggofcajihlaa", sum := "6dda3f13924a2645bb91d6125ba301d4f5307bd10dd7644cbfaacf1464134541", checked := Try.checked }
namespace Rows
def none {H : Type} : Left H := { results := [], args := [] }

/-- 'lexpriorlaw01.OctetsTurned': WHATEVER THE INPUT: true; the input reads as it did. -/
def octetsTurnedSpec : ChangeSpec := { name := "octetsTurned", fn := fun _ => fun
  | [d1, d2, d3] => { results := [.lit (.bool true)], args := [d1, d2, d3] }
  | _ => none }
def octetsTurnedRow : OpenClaim := { program := "ytliggofcajihlaa", sum := "6dda3f13924a2645bb91d6125ba301d4f5307bd10dd7644cbfaacf1464134541", func := "lexprior/lexpriorlaw01.OctetsTurned", spec := "octetsTurned", apart := false }
def OctetsTurnedSaid : Prop := octetsTurnedRow.holds Try.pinned (OpenSpec.ofChange octetsTurnedSpec)

/-- ITS FALSE NEIGHBOUR: 'it returns false'. Refute it at one input. -/
def octetsTurnedWrong : ChangeSpec := { name := "octetsTurned", fn := fun _ => fun
  | [d1, d2, d3] => { results := [.lit (.bool false)], args := [d1, d2, d3] }
  | _ => none }
def OctetsTurnedWrongFalsely : Prop := octetsTurnedRow.holds Try.pinned (OpenSpec.ofChange octetsTurnedWrong)

/-- 'lexpriorlaw01.OctetsNumbers': WHATEVER THE INPUT: true; the input reads as it did. -/
def octetsNumbersSpec : ChangeSpec := { name := "octetsNumbers", fn := fun _ => fun
  | [d1, d2, d3] => { results := [.lit (.bool true)], args := [d1, d2, d3] }
  | _ => none }
def octetsNumbersRow : OpenClaim := { program := "ytliggofcajihlaa", sum := "6dda3f13924a2645bb91d6125ba301d4f5307bd10dd7644cbfaacf1464134541", func := "lexprior/lexpriorlaw01.OctetsNumbers", spec := "octetsNumbers", recurses := true, apart := false }
def OctetsNumbersSaid : Prop := octetsNumbersRow.holds Try.pinned (OpenSpec.ofChange octetsNumbersSpec)

/-- ITS FALSE NEIGHBOUR: 'it returns false'. Refute it at one input. -/
def octetsNumbersWrong : ChangeSpec := { name := "octetsNumbers", fn := fun _ => fun
  | [d1, d2, d3] => { results := [.lit (.bool false)], args := [d1, d2, d3] }
  | _ => none }
def OctetsNumbersWrongFalsely : Prop := octetsNumbersRow.holds Try.pinned (OpenSpec.ofChange octetsNumbersWrong)

/-- 'lexpriorlaw01.OctetsTexts': WHATEVER THE INPUT: true; the input reads as it did. -/
def octetsTextsSpec : ChangeSpec := { name := "octetsTexts", fn := fun _ => fun
  | [d1, d2, d3] => { results := [.lit (.bool true)], args := [d1, d2, d3] }
  | _ => none }
def octetsTextsRow : OpenClaim := { program := "ytliggofcajihlaa", sum := "6dda3f13924a2645bb91d6125ba301d4f5307bd10dd7644cbfaacf1464134541", func := "lexprior/lexpriorlaw01.OctetsTexts", spec := "octetsTexts", recurses := true, apart := false }
def OctetsTextsSaid : Prop := octetsTextsRow.holds Try.pinned (OpenSpec.ofChange octetsTextsSpec)

/-- ITS FALSE NEIGHBOUR: 'it returns false'. Refute it at one input. -/
def octetsTextsWrong : ChangeSpec := { name := "octetsTexts", fn := fun _ => fun
  | [d1, d2, d3] => { results := [.lit (.bool false)], args := [d1, d2, d3] }
  | _ => none }
def OctetsTextsWrongFalsely : Prop := octetsTextsRow.holds Try.pinned (OpenSpec.ofChange octetsTextsWrong)

/-- 'lexpriorlaw01.OctetsDigits': WHATEVER THE INPUT: true; the input reads as it did. -/
def octetsDigitsSpec : ChangeSpec := { name := "octetsDigits", fn := fun _ => fun
  | [d1, d2] => { results := [.lit (.bool true)], args := [d1, d2] }
  | _ => none }
def octetsDigitsRow : OpenClaim := { program := "ytliggofcajihlaa", sum := "6dda3f13924a2645bb91d6125ba301d4f5307bd10dd7644cbfaacf1464134541", func := "lexprior/lexpriorlaw01.OctetsDigits", spec := "octetsDigits", apart := false }
def OctetsDigitsSaid : Prop := octetsDigitsRow.holds Try.pinned (OpenSpec.ofChange octetsDigitsSpec)

/-- ITS FALSE NEIGHBOUR: 'it returns false'. Refute it at one input. -/
def octetsDigitsWrong : ChangeSpec := { name := "octetsDigits", fn := fun _ => fun
  | [d1, d2] => { results := [.lit (.bool false)], args := [d1, d2] }
  | _ => none }
def OctetsDigitsWrongFalsely : Prop := octetsDigitsRow.holds Try.pinned (OpenSpec.ofChange octetsDigitsWrong)

/-- 'lexpriorlaw01.OctetsOwn': WHATEVER THE INPUT: true; the input reads as it did. -/
def octetsOwnSpec : ChangeSpec := { name := "octetsOwn", fn := fun _ => fun
  | [d1, d2, d3] => { results := [.lit (.bool true)], args := [d1, d2, d3] }
  | _ => none }
def octetsOwnRow : OpenClaim := { program := "ytliggofcajihlaa", sum := "6dda3f13924a2645bb91d6125ba301d4f5307bd10dd7644cbfaacf1464134541", func := "lexprior/lexpriorlaw01.OctetsOwn", spec := "octetsOwn", recurses := true, apart := false }
def OctetsOwnSaid : Prop := octetsOwnRow.holds Try.pinned (OpenSpec.ofChange octetsOwnSpec)

/-- ITS FALSE NEIGHBOUR: 'it returns false'. Refute it at one input. -/
def octetsOwnWrong : ChangeSpec := { name := "octetsOwn", fn := fun _ => fun
  | [d1, d2, d3] => { results := [.lit (.bool false)], args := [d1, d2, d3] }
  | _ => none }
def OctetsOwnWrongFalsely : Prop := octetsOwnRow.holds Try.pinned (OpenSpec.ofChange octetsOwnWrong)

/-- 'lexpriorlaw01.OctetsBack': WHATEVER THE INPUT: true; the input reads as it did. -/
def octetsBackSpec : ChangeSpec := { name := "octetsBack", fn := fun _ => fun
  | [d1, d2, d3, d4] => { results := [.lit (.bool true)], args := [d1, d2, d3, d4] }
  | _ => none }
def octetsBackRow : OpenClaim := { program := "ytliggofcajihlaa", sum := "6dda3f13924a2645bb91d6125ba301d4f5307bd10dd7644cbfaacf1464134541", func := "lexprior/lexpriorlaw01.OctetsBack", spec := "octetsBack", apart := false }
def OctetsBackSaid : Prop := octetsBackRow.holds Try.pinned (OpenSpec.ofChange octetsBackSpec)

/-- ITS FALSE NEIGHBOUR: 'it returns false'. Refute it at one input. -/
def octetsBackWrong : ChangeSpec := { name := "octetsBack", fn := fun _ => fun
  | [d1, d2, d3, d4] => { results := [.lit (.bool false)], args := [d1, d2, d3, d4] }
  | _ => none }
def OctetsBackWrongFalsely : Prop := octetsBackRow.holds Try.pinned (OpenSpec.ofChange octetsBackWrong)

/- THE SECOND FORM. 'bulk': how many values and letters a reading holds, each counted each time it is reached (what is shared counts as often as it is met; a slice's spare places count too). A statement '..UptoSaid' is the law's where the arguments, and the package variables that the reading takes, are together of bulk at most 1048576: NARROWER than '..Said'. Prove '..Said' where nothing that the law and all that it calls make is longer than what came in: it says more and counts as full. Else prove '..UptoSaid'. A law counts once. -/
mutual
def uptoBulk {H : Type} : DataW H → Nat
  | .lit (.string bytes) => bytes.length + 1
  | .lit _ => 1
  | .nil => 1
  | .ptr d => uptoBulk d + 1
  | .slice elems spare => uptoBulkAll elems + uptoBulkAll spare + 1
  | .agg parts => uptoBulkAll parts + 1
  | .iface _ d => uptoBulk d + 1
  | .map entries => uptoBulkEntries entries + 1
  | .held _ => 1
def uptoBulkAll {H : Type} : List (DataW H) → Nat
  | [] => 0
  | d :: r => uptoBulk d + uptoBulkAll r
def uptoBulkEntries {H : Type} : List (Lit × DataW H) → Nat
  | [] => 0
  | x :: r => uptoBulkEntry x + uptoBulkEntries r
def uptoBulkEntry {H : Type} : Lit × DataW H → Nat
  | (.string bytes, d) => bytes.length + uptoBulk d + 1
  | (_, d) => uptoBulk d + 1
 end
def uptoSmall : (H : Type) → List (DataW H) → Bool := fun _ ds => decide (uptoBulkAll ds ≤ 1048576)
def OpenSpec.upto (s : _root_.Go.ChangeSpec) : _root_.Go.OpenSpec := { _root_.Go.OpenSpec.ofChange s with cond := some uptoSmall }

/-- 'lexpriorlaw01.OctetsTurned', WHERE WHAT IT READS IS OF BULK AT MOST 1048576: true; the input reads as it did. -/
def octetsTurnedUptoRow : OpenClaim := { program := "ytliggofcajihlaa", sum := "6dda3f13924a2645bb91d6125ba301d4f5307bd10dd7644cbfaacf1464134541", func := "lexprior/lexpriorlaw01.OctetsTurned", spec := "octetsTurned", apart := false, narrowed := true }
def OctetsTurnedUptoSaid : Prop := octetsTurnedUptoRow.holds Try.pinned (OpenSpec.upto octetsTurnedSpec)

/-- 'lexpriorlaw01.OctetsNumbers', WHERE WHAT IT READS IS OF BULK AT MOST 1048576: true; the input reads as it did. -/
def octetsNumbersUptoRow : OpenClaim := { program := "ytliggofcajihlaa", sum := "6dda3f13924a2645bb91d6125ba301d4f5307bd10dd7644cbfaacf1464134541", func := "lexprior/lexpriorlaw01.OctetsNumbers", spec := "octetsNumbers", recurses := true, apart := false, narrowed := true }
def OctetsNumbersUptoSaid : Prop := octetsNumbersUptoRow.holds Try.pinned (OpenSpec.upto octetsNumbersSpec)

/-- 'lexpriorlaw01.OctetsTexts', WHERE WHAT IT READS IS OF BULK AT MOST 1048576: true; the input reads as it did. -/
def octetsTextsUptoRow : OpenClaim := { program := "ytliggofcajihlaa", sum := "6dda3f13924a2645bb91d6125ba301d4f5307bd10dd7644cbfaacf1464134541", func := "lexprior/lexpriorlaw01.OctetsTexts", spec := "octetsTexts", recurses := true, apart := false, narrowed := true }
def OctetsTextsUptoSaid : Prop := octetsTextsUptoRow.holds Try.pinned (OpenSpec.upto octetsTextsSpec)

/-- 'lexpriorlaw01.OctetsDigits', WHERE WHAT IT READS IS OF BULK AT MOST 1048576: true; the input reads as it did. -/
def octetsDigitsUptoRow : OpenClaim := { program := "ytliggofcajihlaa", sum := "6dda3f13924a2645bb91d6125ba301d4f5307bd10dd7644cbfaacf1464134541", func := "lexprior/lexpriorlaw01.OctetsDigits", spec := "octetsDigits", apart := false, narrowed := true }
def OctetsDigitsUptoSaid : Prop := octetsDigitsUptoRow.holds Try.pinned (OpenSpec.upto octetsDigitsSpec)

/-- 'lexpriorlaw01.OctetsOwn', WHERE WHAT IT READS IS OF BULK AT MOST 1048576: true; the input reads as it did. -/
def octetsOwnUptoRow : OpenClaim := { program := "ytliggofcajihlaa", sum := "6dda3f13924a2645bb91d6125ba301d4f5307bd10dd7644cbfaacf1464134541", func := "lexprior/lexpriorlaw01.OctetsOwn", spec := "octetsOwn", recurses := true, apart := false, narrowed := true }
def OctetsOwnUptoSaid : Prop := octetsOwnUptoRow.holds Try.pinned (OpenSpec.upto octetsOwnSpec)

/-- 'lexpriorlaw01.OctetsBack', WHERE WHAT IT READS IS OF BULK AT MOST 1048576: true; the input reads as it did. -/
def octetsBackUptoRow : OpenClaim := { program := "ytliggofcajihlaa", sum := "6dda3f13924a2645bb91d6125ba301d4f5307bd10dd7644cbfaacf1464134541", func := "lexprior/lexpriorlaw01.OctetsBack", spec := "octetsBack", apart := false, narrowed := true }
def OctetsBackUptoSaid : Prop := octetsBackUptoRow.holds Try.pinned (OpenSpec.upto octetsBackSpec)

end Rows
end Go.Proofs.Ytliggofcajihlaa
