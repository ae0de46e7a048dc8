/-
  No cell of these rows narrows 'for every input' (looked for: loops, veiled, ifaces, maps, wideKeys, modest, calm, conditions, laid).
  DERIVED. THE GIVEN ROWS OF THIS SEAT. 7 by the template 'for every input the law returns true; each argument reads behind the call as it read before'; 0 by the template 'total and deterministic' (their statements: YtbjbhoggbbhblaaTotals.lean).
  GIVEN WITH THE SEED: the statements are not yours to turn. If you find one false, say at which input.
  Laid BY PROGRAM, IN A SANDBOX (cutbox-rows.mjs): the forced cells as the released guide's own fill.sh prints them over the translation 99eac3f387379de3… (all of the seat's roots in one cut). By AI agents, Wed Nov 11 2026. No macro, syntax, notation, axiom, sorry.
-/
import Derived.Test.YtbjbhoggbbhblaaChecked
import GoSem.Claim
import GoSem.ClaimJoined
import GoSem.ClaimMapViews
import Derived.JoinedTies
import Derived.KernelRfl
namespace Go.Proofs.Ytbjbhoggbbhblaa
/- THE CELL 'sum', in the pinned program and in every row, IS THE sha256 OF THE DUMP (.gsa) THAT YtbjbhoggbbhblaaProg.lean LOADS. Nothing in Lean hashes anything: it is a label: what it is worth is what the hold of that sum in a sandbox is worth. -/
noncomputable def Try.pinned : Pinned := { name := "ytbjbhoggbbhblaa", sum := "99eac3f387379de373abca4b1d2033d897ead9f7fead7a0b684dac22679c0346", checked := Try.checked }
namespace Rows
def none {H : Type} : Left H := { results := [], args := [] }

/-- 'doubletakelaw11.BodyStays': WHATEVER THE INPUT: true; the input reads as it did. -/
def bodyStaysSpec : ChangeSpec := { name := "bodyStays", fn := fun _ => fun
  | [d1, d2, d3] => { results := [.lit (.bool true)], args := [d1, d2, d3] }
  | _ => none }
def bodyStaysRow : OpenClaim := { program := "ytbjbhoggbbhblaa", sum := "99eac3f387379de373abca4b1d2033d897ead9f7fead7a0b684dac22679c0346", func := "doubletake/doubletakelaw11.BodyStays", spec := "bodyStays", apart := false }
def BodyStaysSaid : Prop := bodyStaysRow.holds Try.pinned (OpenSpec.ofChange bodyStaysSpec)

/-- ITS FALSE NEIGHBOUR: 'it returns false'. Refute it at one input. -/
def bodyStaysWrong : ChangeSpec := { name := "bodyStays", fn := fun _ => fun
  | [d1, d2, d3] => { results := [.lit (.bool false)], args := [d1, d2, d3] }
  | _ => none }
def BodyStaysWrongFalsely : Prop := bodyStaysRow.holds Try.pinned (OpenSpec.ofChange bodyStaysWrong)

/-- 'doubletakelaw11.BodyShots': WHATEVER THE INPUT: true; the input reads as it did. -/
def bodyShotsSpec : ChangeSpec := { name := "bodyShots", fn := fun _ => fun
  | [d1, d2, d3, d4, d5] => { results := [.lit (.bool true)], args := [d1, d2, d3, d4, d5] }
  | _ => none }
def bodyShotsRow : OpenClaim := { program := "ytbjbhoggbbhblaa", sum := "99eac3f387379de373abca4b1d2033d897ead9f7fead7a0b684dac22679c0346", func := "doubletake/doubletakelaw11.BodyShots", spec := "bodyShots", apart := false }
def BodyShotsSaid : Prop := bodyShotsRow.holds Try.pinned (OpenSpec.ofChange bodyShotsSpec)

/-- ITS FALSE NEIGHBOUR: 'it returns false'. Refute it at one input. -/
def bodyShotsWrong : ChangeSpec := { name := "bodyShots", fn := fun _ => fun
  | [d1, d2, d3, d4, d5] => { results := [.lit (.bool false)], args := [d1, d2, d3, d4, d5] }
  | _ => none }
def BodyShotsWrongFalsely : Prop := bodyShotsRow.holds Try.pinned (OpenSpec.ofChange bodyShotsWrong)

/-- 'doubletakelaw11.BodyBorn': WHATEVER THE INPUT: true; the input reads as it did. -/
def bodyBornSpec : ChangeSpec := { name := "bodyBorn", fn := fun _ => fun
  | [d] => { results := [.lit (.bool true)], args := [d] }
  | _ => none }
def bodyBornRow : OpenClaim := { program := "ytbjbhoggbbhblaa", sum := "99eac3f387379de373abca4b1d2033d897ead9f7fead7a0b684dac22679c0346", func := "doubletake/doubletakelaw11.BodyBorn", spec := "bodyBorn", apart := false }
def BodyBornSaid : Prop := bodyBornRow.holds Try.pinned (OpenSpec.ofChange bodyBornSpec)

/-- ITS FALSE NEIGHBOUR: 'it returns false'. Refute it at one input. -/
def bodyBornWrong : ChangeSpec := { name := "bodyBorn", fn := fun _ => fun
  | [d] => { results := [.lit (.bool false)], args := [d] }
  | _ => none }
def BodyBornWrongFalsely : Prop := bodyBornRow.holds Try.pinned (OpenSpec.ofChange bodyBornWrong)

/-- 'doubletakelaw12.RuleTotal': WHATEVER THE INPUT: true; the input reads as it did. -/
def ruleTotalSpec : ChangeSpec := { name := "ruleTotal", fn := fun _ => fun
  | [d1, d2, d3] => { results := [.lit (.bool true)], args := [d1, d2, d3] }
  | _ => none }
def ruleTotalRow : OpenClaim := { program := "ytbjbhoggbbhblaa", sum := "99eac3f387379de373abca4b1d2033d897ead9f7fead7a0b684dac22679c0346", func := "doubletake/doubletakelaw12.RuleTotal", spec := "ruleTotal", unfollowed := true, recurses := true, apart := false }
def RuleTotalSaid : Prop := ruleTotalRow.holds Try.pinned (OpenSpec.ofChange ruleTotalSpec)

/-- ITS FALSE NEIGHBOUR: 'it returns false'. Refute it at one input. -/
def ruleTotalWrong : ChangeSpec := { name := "ruleTotal", fn := fun _ => fun
  | [d1, d2, d3] => { results := [.lit (.bool false)], args := [d1, d2, d3] }
  | _ => none }
def RuleTotalWrongFalsely : Prop := ruleTotalRow.holds Try.pinned (OpenSpec.ofChange ruleTotalWrong)

/-- 'doubletakelaw12.RuleStops': WHATEVER THE INPUT: true; the input reads as it did. -/
def ruleStopsSpec : ChangeSpec := { name := "ruleStops", fn := fun _ => fun
  | [d1, d2, d3] => { results := [.lit (.bool true)], args := [d1, d2, d3] }
  | _ => none }
def ruleStopsRow : OpenClaim := { program := "ytbjbhoggbbhblaa", sum := "99eac3f387379de373abca4b1d2033d897ead9f7fead7a0b684dac22679c0346", func := "doubletake/doubletakelaw12.RuleStops", spec := "ruleStops", unfollowed := true, recurses := true, apart := false }
def RuleStopsSaid : Prop := ruleStopsRow.holds Try.pinned (OpenSpec.ofChange ruleStopsSpec)

/-- ITS FALSE NEIGHBOUR: 'it returns false'. Refute it at one input. -/
def ruleStopsWrong : ChangeSpec := { name := "ruleStops", fn := fun _ => fun
  | [d1, d2, d3] => { results := [.lit (.bool false)], args := [d1, d2, d3] }
  | _ => none }
def RuleStopsWrongFalsely : Prop := ruleStopsRow.holds Try.pinned (OpenSpec.ofChange ruleStopsWrong)

/-- 'doubletakelaw12.RuleKnown': WHATEVER THE INPUT: true; the input reads as it did. -/
def ruleKnownSpec : ChangeSpec := { name := "ruleKnown", fn := fun _ => fun
  | [] => { results := [.lit (.bool true)], args := [] }
  | _ => none }
def ruleKnownRow : OpenClaim := { program := "ytbjbhoggbbhblaa", sum := "99eac3f387379de373abca4b1d2033d897ead9f7fead7a0b684dac22679c0346", func := "doubletake/doubletakelaw12.RuleKnown", spec := "ruleKnown", unfollowed := true, recurses := true, apart := false }
def RuleKnownSaid : Prop := ruleKnownRow.holds Try.pinned (OpenSpec.ofChange ruleKnownSpec)

/-- ITS FALSE NEIGHBOUR: 'it returns false'. Refute it at one input. -/
def ruleKnownWrong : ChangeSpec := { name := "ruleKnown", fn := fun _ => fun
  | [] => { results := [.lit (.bool false)], args := [] }
  | _ => none }
def RuleKnownWrongFalsely : Prop := ruleKnownRow.holds Try.pinned (OpenSpec.ofChange ruleKnownWrong)

/-- 'doubletakelaw12.RuleRuns': WHATEVER THE INPUT: true; the input reads as it did. -/
def ruleRunsSpec : ChangeSpec := { name := "ruleRuns", fn := fun _ => fun
  | [d1, d2] => { results := [.lit (.bool true)], args := [d1, d2] }
  | _ => none }
def ruleRunsRow : OpenClaim := { program := "ytbjbhoggbbhblaa", sum := "99eac3f387379de373abca4b1d2033d897ead9f7fead7a0b684dac22679c0346", func := "doubletake/doubletakelaw12.RuleRuns", spec := "ruleRuns", unfollowed := true, recurses := true, apart := false }
def RuleRunsSaid : Prop := ruleRunsRow.holds Try.pinned (OpenSpec.ofChange ruleRunsSpec)

/-- ITS FALSE NEIGHBOUR: 'it returns false'. Refute it at one input. -/
def ruleRunsWrong : ChangeSpec := { name := "ruleRuns", fn := fun _ => fun
  | [d1, d2] => { results := [.lit (.bool false)], args := [d1, d2] }
  | _ => none }
def RuleRunsWrongFalsely : Prop := ruleRunsRow.holds Try.pinned (OpenSpec.ofChange ruleRunsWrong)

/- THE SECOND FORM. 'bulk': how many values and letters a reading holds, each counted each time it is reached (what is shared counts as often as it is met; a slice's spare places count too). A statement '..UptoSaid' is the law's where the arguments, and the package variables that the reading takes, are together of bulk at most 1048576: NARROWER than '..Said'. Prove '..Said' where nothing that the law and all that it calls make is longer than what came in: it says more and counts as full. Else prove '..UptoSaid'. A law counts once. -/
mutual
def uptoBulk {H : Type} : DataW H → Nat
  | .lit (.string bytes) => bytes.length + 1
  | .lit _ => 1
  | .nil => 1
  | .ptr d => uptoBulk d + 1
  | .slice elems spare => uptoBulkAll elems + uptoBulkAll spare + 1
  | .agg parts => uptoBulkAll parts + 1
  | .iface _ d => uptoBulk d + 1
  | .map entries => uptoBulkEntries entries + 1
  | .held _ => 1
def uptoBulkAll {H : Type} : List (DataW H) → Nat
  | [] => 0
  | d :: r => uptoBulk d + uptoBulkAll r
def uptoBulkEntries {H : Type} : List (Lit × DataW H) → Nat
  | [] => 0
  | x :: r => uptoBulkEntry x + uptoBulkEntries r
def uptoBulkEntry {H : Type} : Lit × DataW H → Nat
  | (.string bytes, d) => bytes.length + uptoBulk d + 1
  | (_, d) => uptoBulk d + 1
 end
def uptoSmall : (H : Type) → List (DataW H) → Bool := fun _ ds => decide (uptoBulkAll ds ≤ 1048576)
def OpenSpec.upto (s : _root_.Go.ChangeSpec) : _root_.Go.OpenSpec := { _root_.Go.OpenSpec.ofChange s with cond := some uptoSmall }

/-- 'doubletakelaw11.BodyStays', WHERE WHAT IT READS IS OF BULK AT MOST 1048576: true; the input reads as it did. -/
def bodyStaysUptoRow : OpenClaim := { program := "ytbjbhoggbbhblaa", sum := "99eac3f387379de373abca4b1d2033d897ead9f7fead7a0b684dac22679c0346", func := "doubletake/doubletakelaw11.BodyStays", spec := "bodyStays", apart := false, narrowed := true }
def BodyStaysUptoSaid : Prop := bodyStaysUptoRow.holds Try.pinned (OpenSpec.upto bodyStaysSpec)

/-- 'doubletakelaw11.BodyShots', WHERE WHAT IT READS IS OF BULK AT MOST 1048576: true; the input reads as it did. -/
def bodyShotsUptoRow : OpenClaim := { program := "ytbjbhoggbbhblaa", sum := "99eac3f387379de373abca4b1d2033d897ead9f7fead7a0b684dac22679c0346", func := "doubletake/doubletakelaw11.BodyShots", spec := "bodyShots", apart := false, narrowed := true }
def BodyShotsUptoSaid : Prop := bodyShotsUptoRow.holds Try.pinned (OpenSpec.upto bodyShotsSpec)

/-- 'doubletakelaw11.BodyBorn', WHERE WHAT IT READS IS OF BULK AT MOST 1048576: true; the input reads as it did. -/
def bodyBornUptoRow : OpenClaim := { program := "ytbjbhoggbbhblaa", sum := "99eac3f387379de373abca4b1d2033d897ead9f7fead7a0b684dac22679c0346", func := "doubletake/doubletakelaw11.BodyBorn", spec := "bodyBorn", apart := false, narrowed := true }
def BodyBornUptoSaid : Prop := bodyBornUptoRow.holds Try.pinned (OpenSpec.upto bodyBornSpec)

/-- 'doubletakelaw12.RuleTotal', WHERE WHAT IT READS IS OF BULK AT MOST 1048576: true; the input reads as it did. -/
def ruleTotalUptoRow : OpenClaim := { program := "ytbjbhoggbbhblaa", sum := "99eac3f387379de373abca4b1d2033d897ead9f7fead7a0b684dac22679c0346", func := "doubletake/doubletakelaw12.RuleTotal", spec := "ruleTotal", unfollowed := true, recurses := true, apart := false, narrowed := true }
def RuleTotalUptoSaid : Prop := ruleTotalUptoRow.holds Try.pinned (OpenSpec.upto ruleTotalSpec)

/-- 'doubletakelaw12.RuleStops', WHERE WHAT IT READS IS OF BULK AT MOST 1048576: true; the input reads as it did. -/
def ruleStopsUptoRow : OpenClaim := { program := "ytbjbhoggbbhblaa", sum := "99eac3f387379de373abca4b1d2033d897ead9f7fead7a0b684dac22679c0346", func := "doubletake/doubletakelaw12.RuleStops", spec := "ruleStops", unfollowed := true, recurses := true, apart := false, narrowed := true }
def RuleStopsUptoSaid : Prop := ruleStopsUptoRow.holds Try.pinned (OpenSpec.upto ruleStopsSpec)

/-- 'doubletakelaw12.RuleKnown', WHERE WHAT IT READS IS OF BULK AT MOST 1048576: true; the input reads as it did. -/
def ruleKnownUptoRow : OpenClaim := { program := "ytbjbhoggbbhblaa", sum := "99eac3f387379de373abca4b1d2033d897ead9f7fead7a0b684dac22679c0346", func := "doubletake/doubletakelaw12.RuleKnown", spec := "ruleKnown", unfollowed := true, recurses := true, apart := false, narrowed := true }
def RuleKnownUptoSaid : Prop := ruleKnownUptoRow.holds Try.pinned (OpenSpec.upto ruleKnownSpec)

/-- 'doubletakelaw12.RuleRuns', WHERE WHAT IT READS IS OF BULK AT MOST 1048576: true; the input reads as it did. -/
def ruleRunsUptoRow : OpenClaim := { program := "ytbjbhoggbbhblaa", sum := "99eac3f387379de373abca4b1d2033d897ead9f7fead7a0b684dac22679c0346", func := "doubletake/doubletakelaw12.RuleRuns", spec := "ruleRuns", unfollowed := true, recurses := true, apart := false, narrowed := true }
def RuleRunsUptoSaid : Prop := ruleRunsUptoRow.holds Try.pinned (OpenSpec.upto ruleRunsSpec)

end Rows
end Go.Proofs.Ytbjbhoggbbhblaa
