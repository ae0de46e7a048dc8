/-
  No cell of these rows narrows 'for every input' (looked for: loops, veiled, ifaces, maps, wideKeys, modest, calm, conditions, laid).
  DERIVED. THE GIVEN ROWS OF THIS SEAT. 18 by the template 'for every input the law returns true; each argument reads behind the call as it read before'; 0 by the template 'total and deterministic' (their statements: YtpchcfkebljopaaTotals.lean).
  GIVEN WITH THE SEED: the statements are not yours to turn. If you find one false, say at which input.
  Laid BY PROGRAM, IN A SANDBOX (cutbox-rows.mjs): the forced cells as the released guide's own fill.sh prints them over the translation 6cad91f091176b95… (all of the seat's roots in one cut). By AI agents, Wed Nov 11 2026. No macro, syntax, notation, axiom, sorry.
-/
import Derived.Test.YtpchcfkebljopaaChecked
import GoSem.Claim
import GoSem.ClaimJoined
import GoSem.ClaimMapViews
import Derived.JoinedTies
import Derived.KernelRfl
namespace Go.Proofs.Ytpchcfkebljopaa
/- THE CELL 'sum', in the pinned program and in every row, IS THE sha256 OF THE DUMP (.gsa) THAT YtpchcfkebljopaaProg.lean LOADS. Nothing in Lean hashes anything: it is a label: what it is worth is what the hold of that sum in a sandbox is worth. -/
noncomputable def Try.pinned : Pinned := { name := "ytpchcfkebljopaa", sum := "6cad91f091176b955d69840eae540ec302c46664bf27e921d8e7eaab6ea59fdc", checked := Try.checked }
namespace Rows
def none {H : Type} : Left H := { results := [], args := [] }

/-- 'doubletakelaw12.RuleTotal': WHATEVER THE INPUT: true; the input reads as it did. -/
def ruleTotalSpec : ChangeSpec := { name := "ruleTotal", fn := fun _ => fun
  | [d1, d2, d3] => { results := [.lit (.bool true)], args := [d1, d2, d3] }
  | _ => none }
def ruleTotalRow : OpenClaim := { program := "ytpchcfkebljopaa", sum := "6cad91f091176b955d69840eae540ec302c46664bf27e921d8e7eaab6ea59fdc", func := "doubletake/doubletakelaw12.RuleTotal", spec := "ruleTotal", unfollowed := true, recurses := true, apart := false }
def RuleTotalSaid : Prop := ruleTotalRow.holds Try.pinned (OpenSpec.ofChange ruleTotalSpec)

/-- ITS FALSE NEIGHBOUR: 'it returns false'. Refute it at one input. -/
def ruleTotalWrong : ChangeSpec := { name := "ruleTotal", fn := fun _ => fun
  | [d1, d2, d3] => { results := [.lit (.bool false)], args := [d1, d2, d3] }
  | _ => none }
def RuleTotalWrongFalsely : Prop := ruleTotalRow.holds Try.pinned (OpenSpec.ofChange ruleTotalWrong)

/-- 'doubletakelaw12.RuleStops': WHATEVER THE INPUT: true; the input reads as it did. -/
def ruleStopsSpec : ChangeSpec := { name := "ruleStops", fn := fun _ => fun
  | [d1, d2, d3] => { results := [.lit (.bool true)], args := [d1, d2, d3] }
  | _ => none }
def ruleStopsRow : OpenClaim := { program := "ytpchcfkebljopaa", sum := "6cad91f091176b955d69840eae540ec302c46664bf27e921d8e7eaab6ea59fdc", func := "doubletake/doubletakelaw12.RuleStops", spec := "ruleStops", unfollowed := true, recurses := true, apart := false }
def RuleStopsSaid : Prop := ruleStopsRow.holds Try.pinned (OpenSpec.ofChange ruleStopsSpec)

/-- ITS FALSE NEIGHBOUR: 'it returns false'. Refute it at one input. -/
def ruleStopsWrong : ChangeSpec := { name := "ruleStops", fn := fun _ => fun
  | [d1, d2, d3] => { results := [.lit (.bool false)], args := [d1, d2, d3] }
  | _ => none }
def RuleStopsWrongFalsely : Prop := ruleStopsRow.holds Try.pinned (OpenSpec.ofChange ruleStopsWrong)

/-- 'doubletakelaw12.RuleRuns': WHATEVER THE INPUT: true; the input reads as it did. -/
def ruleRunsSpec : ChangeSpec := { name := "ruleRuns", fn := fun _ => fun
  | [d1, d2] => { results := [.lit (.bool true)], args := [d1, d2] }
  | _ => none }
def ruleRunsRow : OpenClaim := { program := "ytpchcfkebljopaa", sum := "6cad91f091176b955d69840eae540ec302c46664bf27e921d8e7eaab6ea59fdc", func := "doubletake/doubletakelaw12.RuleRuns", spec := "ruleRuns", unfollowed := true, recurses := true, apart := false }
def RuleRunsSaid : Prop := ruleRunsRow.holds Try.pinned (OpenSpec.ofChange ruleRunsSpec)

/-- ITS FALSE NEIGHBOUR: 'it returns false'. Refute it at one input. -/
def ruleRunsWrong : ChangeSpec := { name := "ruleRuns", fn := fun _ => fun
  | [d1, d2] => { results := [.lit (.bool false)], args := [d1, d2] }
  | _ => none }
def RuleRunsWrongFalsely : Prop := ruleRunsRow.holds Try.pinned (OpenSpec.ofChange ruleRunsWrong)

/-- 'doubletakelaw14.StateBack': WHATEVER THE INPUT: true; the input reads as it did. -/
def stateBackSpec : ChangeSpec := { name := "stateBack", fn := fun _ => fun
  | [d1, d2, d3] => { results := [.lit (.bool true)], args := [d1, d2, d3] }
  | _ => none }
def stateBackRow : OpenClaim := { program := "ytpchcfkebljopaa", sum := "6cad91f091176b955d69840eae540ec302c46664bf27e921d8e7eaab6ea59fdc", func := "doubletake/doubletakelaw14.StateBack", spec := "stateBack", inPlace := ["math.Float64bits", "math.Float64frombits"], unfollowed := true, recurses := true, apart := false }
def StateBackSaid : Prop := stateBackRow.holds Try.pinned (OpenSpec.ofChange stateBackSpec)

/-- ITS FALSE NEIGHBOUR: 'it returns false'. Refute it at one input. -/
def stateBackWrong : ChangeSpec := { name := "stateBack", fn := fun _ => fun
  | [d1, d2, d3] => { results := [.lit (.bool false)], args := [d1, d2, d3] }
  | _ => none }
def StateBackWrongFalsely : Prop := stateBackRow.holds Try.pinned (OpenSpec.ofChange stateBackWrong)

/-- 'doubletakelaw14.StateTurned': WHATEVER THE INPUT: true; the input reads as it did. -/
def stateTurnedSpec : ChangeSpec := { name := "stateTurned", fn := fun _ => fun
  | [d1, d2, d3, d4] => { results := [.lit (.bool true)], args := [d1, d2, d3, d4] }
  | _ => none }
def stateTurnedRow : OpenClaim := { program := "ytpchcfkebljopaa", sum := "6cad91f091176b955d69840eae540ec302c46664bf27e921d8e7eaab6ea59fdc", func := "doubletake/doubletakelaw14.StateTurned", spec := "stateTurned", inPlace := ["math.Float64bits", "math.Float64frombits"], unfollowed := true, recurses := true, apart := false }
def StateTurnedSaid : Prop := stateTurnedRow.holds Try.pinned (OpenSpec.ofChange stateTurnedSpec)

/-- ITS FALSE NEIGHBOUR: 'it returns false'. Refute it at one input. -/
def stateTurnedWrong : ChangeSpec := { name := "stateTurned", fn := fun _ => fun
  | [d1, d2, d3, d4] => { results := [.lit (.bool false)], args := [d1, d2, d3, d4] }
  | _ => none }
def StateTurnedWrongFalsely : Prop := stateTurnedRow.holds Try.pinned (OpenSpec.ofChange stateTurnedWrong)

/-- 'doubletakelaw14.StateLays': WHATEVER THE INPUT: true; the input reads as it did. -/
def stateLaysSpec : ChangeSpec := { name := "stateLays", fn := fun _ => fun
  | [d1, d2, d3, d4, d5, d6, d7, d8, d9] => { results := [.lit (.bool true)], args := [d1, d2, d3, d4, d5, d6, d7, d8, d9] }
  | _ => none }
def stateLaysRow : OpenClaim := { program := "ytpchcfkebljopaa", sum := "6cad91f091176b955d69840eae540ec302c46664bf27e921d8e7eaab6ea59fdc", func := "doubletake/doubletakelaw14.StateLays", spec := "stateLays", inPlace := ["math.Float64bits", "math.Float64frombits"], unfollowed := true, recurses := true, apart := false }
def StateLaysSaid : Prop := stateLaysRow.holds Try.pinned (OpenSpec.ofChange stateLaysSpec)

/-- ITS FALSE NEIGHBOUR: 'it returns false'. Refute it at one input. -/
def stateLaysWrong : ChangeSpec := { name := "stateLays", fn := fun _ => fun
  | [d1, d2, d3, d4, d5, d6, d7, d8, d9] => { results := [.lit (.bool false)], args := [d1, d2, d3, d4, d5, d6, d7, d8, d9] }
  | _ => none }
def StateLaysWrongFalsely : Prop := stateLaysRow.holds Try.pinned (OpenSpec.ofChange stateLaysWrong)

/-- 'doubletakelaw14.StateBits': WHATEVER THE INPUT: true; the input reads as it did. -/
def stateBitsSpec : ChangeSpec := { name := "stateBits", fn := fun _ => fun
  | [d1, d2, d3] => { results := [.lit (.bool true)], args := [d1, d2, d3] }
  | _ => none }
def stateBitsRow : OpenClaim := { program := "ytpchcfkebljopaa", sum := "6cad91f091176b955d69840eae540ec302c46664bf27e921d8e7eaab6ea59fdc", func := "doubletake/doubletakelaw14.StateBits", spec := "stateBits", inPlace := ["math.Float64bits", "math.Float64frombits"], unfollowed := true, recurses := true, apart := false }
def StateBitsSaid : Prop := stateBitsRow.holds Try.pinned (OpenSpec.ofChange stateBitsSpec)

/-- ITS FALSE NEIGHBOUR: 'it returns false'. Refute it at one input. -/
def stateBitsWrong : ChangeSpec := { name := "stateBits", fn := fun _ => fun
  | [d1, d2, d3] => { results := [.lit (.bool false)], args := [d1, d2, d3] }
  | _ => none }
def StateBitsWrongFalsely : Prop := stateBitsRow.holds Try.pinned (OpenSpec.ofChange stateBitsWrong)

/-- 'doubletakelaw14.StateMarks': WHATEVER THE INPUT: true; the input reads as it did. -/
def stateMarksSpec : ChangeSpec := { name := "stateMarks", fn := fun _ => fun
  | [d1, d2, d3, d4] => { results := [.lit (.bool true)], args := [d1, d2, d3, d4] }
  | _ => none }
def stateMarksRow : OpenClaim := { program := "ytpchcfkebljopaa", sum := "6cad91f091176b955d69840eae540ec302c46664bf27e921d8e7eaab6ea59fdc", func := "doubletake/doubletakelaw14.StateMarks", spec := "stateMarks", inPlace := ["math.Float64bits", "math.Float64frombits"], unfollowed := true, recurses := true, apart := false }
def StateMarksSaid : Prop := stateMarksRow.holds Try.pinned (OpenSpec.ofChange stateMarksSpec)

/-- ITS FALSE NEIGHBOUR: 'it returns false'. Refute it at one input. -/
def stateMarksWrong : ChangeSpec := { name := "stateMarks", fn := fun _ => fun
  | [d1, d2, d3, d4] => { results := [.lit (.bool false)], args := [d1, d2, d3, d4] }
  | _ => none }
def StateMarksWrongFalsely : Prop := stateMarksRow.holds Try.pinned (OpenSpec.ofChange stateMarksWrong)

/-- 'doubletakelaw15.PacketBack': WHATEVER THE INPUT: true; the input reads as it did. -/
def packetBackSpec : ChangeSpec := { name := "packetBack", fn := fun _ => fun
  | [d1, d2, d3, d4, d5, d6] => { results := [.lit (.bool true)], args := [d1, d2, d3, d4, d5, d6] }
  | _ => none }
def packetBackRow : OpenClaim := { program := "ytpchcfkebljopaa", sum := "6cad91f091176b955d69840eae540ec302c46664bf27e921d8e7eaab6ea59fdc", func := "doubletake/doubletakelaw15.PacketBack", spec := "packetBack", unfollowed := true, recurses := true, apart := false }
def PacketBackSaid : Prop := packetBackRow.holds Try.pinned (OpenSpec.ofChange packetBackSpec)

/-- ITS FALSE NEIGHBOUR: 'it returns false'. Refute it at one input. -/
def packetBackWrong : ChangeSpec := { name := "packetBack", fn := fun _ => fun
  | [d1, d2, d3, d4, d5, d6] => { results := [.lit (.bool false)], args := [d1, d2, d3, d4, d5, d6] }
  | _ => none }
def PacketBackWrongFalsely : Prop := packetBackRow.holds Try.pinned (OpenSpec.ofChange packetBackWrong)

/-- 'doubletakelaw15.PacketForms': WHATEVER THE INPUT: true; the input reads as it did. -/
def packetFormsSpec : ChangeSpec := { name := "packetForms", fn := fun _ => fun
  | [d1, d2] => { results := [.lit (.bool true)], args := [d1, d2] }
  | _ => none }
def packetFormsRow : OpenClaim := { program := "ytpchcfkebljopaa", sum := "6cad91f091176b955d69840eae540ec302c46664bf27e921d8e7eaab6ea59fdc", func := "doubletake/doubletakelaw15.PacketForms", spec := "packetForms", unfollowed := true, recurses := true, apart := false }
def PacketFormsSaid : Prop := packetFormsRow.holds Try.pinned (OpenSpec.ofChange packetFormsSpec)

/-- ITS FALSE NEIGHBOUR: 'it returns false'. Refute it at one input. -/
def packetFormsWrong : ChangeSpec := { name := "packetForms", fn := fun _ => fun
  | [d1, d2] => { results := [.lit (.bool false)], args := [d1, d2] }
  | _ => none }
def PacketFormsWrongFalsely : Prop := packetFormsRow.holds Try.pinned (OpenSpec.ofChange packetFormsWrong)

/-- 'doubletakelaw15.PacketLays': WHATEVER THE INPUT: true; the input reads as it did. -/
def packetLaysSpec : ChangeSpec := { name := "packetLays", fn := fun _ => fun
  | [d1, d2, d3, d4, d5, d6] => { results := [.lit (.bool true)], args := [d1, d2, d3, d4, d5, d6] }
  | _ => none }
def packetLaysRow : OpenClaim := { program := "ytpchcfkebljopaa", sum := "6cad91f091176b955d69840eae540ec302c46664bf27e921d8e7eaab6ea59fdc", func := "doubletake/doubletakelaw15.PacketLays", spec := "packetLays", unfollowed := true, recurses := true, apart := false }
def PacketLaysSaid : Prop := packetLaysRow.holds Try.pinned (OpenSpec.ofChange packetLaysSpec)

/-- ITS FALSE NEIGHBOUR: 'it returns false'. Refute it at one input. -/
def packetLaysWrong : ChangeSpec := { name := "packetLays", fn := fun _ => fun
  | [d1, d2, d3, d4, d5, d6] => { results := [.lit (.bool false)], args := [d1, d2, d3, d4, d5, d6] }
  | _ => none }
def PacketLaysWrongFalsely : Prop := packetLaysRow.holds Try.pinned (OpenSpec.ofChange packetLaysWrong)

/-- 'doubletakelaw15.PacketSizes': WHATEVER THE INPUT: true; the input reads as it did. -/
def packetSizesSpec : ChangeSpec := { name := "packetSizes", fn := fun _ => fun
  | [d1, d2] => { results := [.lit (.bool true)], args := [d1, d2] }
  | _ => none }
def packetSizesRow : OpenClaim := { program := "ytpchcfkebljopaa", sum := "6cad91f091176b955d69840eae540ec302c46664bf27e921d8e7eaab6ea59fdc", func := "doubletake/doubletakelaw15.PacketSizes", spec := "packetSizes", unfollowed := true, recurses := true, apart := false }
def PacketSizesSaid : Prop := packetSizesRow.holds Try.pinned (OpenSpec.ofChange packetSizesSpec)

/-- ITS FALSE NEIGHBOUR: 'it returns false'. Refute it at one input. -/
def packetSizesWrong : ChangeSpec := { name := "packetSizes", fn := fun _ => fun
  | [d1, d2] => { results := [.lit (.bool false)], args := [d1, d2] }
  | _ => none }
def PacketSizesWrongFalsely : Prop := packetSizesRow.holds Try.pinned (OpenSpec.ofChange packetSizesWrong)

/-- 'doubletakelaw13.StepStays': WHATEVER THE INPUT: true; the input reads as it did. -/
def stepStaysSpec : ChangeSpec := { name := "stepStays", fn := fun _ => fun
  | [d1, d2, d3] => { results := [.lit (.bool true)], args := [d1, d2, d3] }
  | _ => none }
def stepStaysRow : OpenClaim := { program := "ytpchcfkebljopaa", sum := "6cad91f091176b955d69840eae540ec302c46664bf27e921d8e7eaab6ea59fdc", func := "doubletake/doubletakelaw13.StepStays", spec := "stepStays", inPlace := ["math.Float64bits", "math.Float64frombits"], unfollowed := true, recurses := true, apart := false }
def StepStaysSaid : Prop := stepStaysRow.holds Try.pinned (OpenSpec.ofChange stepStaysSpec)

/-- ITS FALSE NEIGHBOUR: 'it returns false'. Refute it at one input. -/
def stepStaysWrong : ChangeSpec := { name := "stepStays", fn := fun _ => fun
  | [d1, d2, d3] => { results := [.lit (.bool false)], args := [d1, d2, d3] }
  | _ => none }
def StepStaysWrongFalsely : Prop := stepStaysRow.holds Try.pinned (OpenSpec.ofChange stepStaysWrong)

/-- 'doubletakelaw13.StepApart': WHATEVER THE INPUT: true; the input reads as it did. -/
def stepApartSpec : ChangeSpec := { name := "stepApart", fn := fun _ => fun
  | [d1, d2, d3, d4] => { results := [.lit (.bool true)], args := [d1, d2, d3, d4] }
  | _ => none }
def stepApartRow : OpenClaim := { program := "ytpchcfkebljopaa", sum := "6cad91f091176b955d69840eae540ec302c46664bf27e921d8e7eaab6ea59fdc", func := "doubletake/doubletakelaw13.StepApart", spec := "stepApart", inPlace := ["math.Float64bits", "math.Float64frombits"], unfollowed := true, recurses := true, apart := false }
def StepApartSaid : Prop := stepApartRow.holds Try.pinned (OpenSpec.ofChange stepApartSpec)

/-- ITS FALSE NEIGHBOUR: 'it returns false'. Refute it at one input. -/
def stepApartWrong : ChangeSpec := { name := "stepApart", fn := fun _ => fun
  | [d1, d2, d3, d4] => { results := [.lit (.bool false)], args := [d1, d2, d3, d4] }
  | _ => none }
def StepApartWrongFalsely : Prop := stepApartRow.holds Try.pinned (OpenSpec.ofChange stepApartWrong)

/-- 'doubletakelaw13.StepFaults': WHATEVER THE INPUT: true; the input reads as it did. -/
def stepFaultsSpec : ChangeSpec := { name := "stepFaults", fn := fun _ => fun
  | [d1, d2, d3, d4] => { results := [.lit (.bool true)], args := [d1, d2, d3, d4] }
  | _ => none }
def stepFaultsRow : OpenClaim := { program := "ytpchcfkebljopaa", sum := "6cad91f091176b955d69840eae540ec302c46664bf27e921d8e7eaab6ea59fdc", func := "doubletake/doubletakelaw13.StepFaults", spec := "stepFaults", inPlace := ["math.Float64bits", "math.Float64frombits"], unfollowed := true, recurses := true, apart := false }
def StepFaultsSaid : Prop := stepFaultsRow.holds Try.pinned (OpenSpec.ofChange stepFaultsSpec)

/-- ITS FALSE NEIGHBOUR: 'it returns false'. Refute it at one input. -/
def stepFaultsWrong : ChangeSpec := { name := "stepFaults", fn := fun _ => fun
  | [d1, d2, d3, d4] => { results := [.lit (.bool false)], args := [d1, d2, d3, d4] }
  | _ => none }
def StepFaultsWrongFalsely : Prop := stepFaultsRow.holds Try.pinned (OpenSpec.ofChange stepFaultsWrong)

/-- 'doubletakelaw13.StepDefaults': WHATEVER THE INPUT: true; the input reads as it did. -/
def stepDefaultsSpec : ChangeSpec := { name := "stepDefaults", fn := fun _ => fun
  | [d1, d2, d3, d4] => { results := [.lit (.bool true)], args := [d1, d2, d3, d4] }
  | _ => none }
def stepDefaultsRow : OpenClaim := { program := "ytpchcfkebljopaa", sum := "6cad91f091176b955d69840eae540ec302c46664bf27e921d8e7eaab6ea59fdc", func := "doubletake/doubletakelaw13.StepDefaults", spec := "stepDefaults", inPlace := ["math.Float64bits", "math.Float64frombits"], unfollowed := true, recurses := true, apart := false }
def StepDefaultsSaid : Prop := stepDefaultsRow.holds Try.pinned (OpenSpec.ofChange stepDefaultsSpec)

/-- ITS FALSE NEIGHBOUR: 'it returns false'. Refute it at one input. -/
def stepDefaultsWrong : ChangeSpec := { name := "stepDefaults", fn := fun _ => fun
  | [d1, d2, d3, d4] => { results := [.lit (.bool false)], args := [d1, d2, d3, d4] }
  | _ => none }
def StepDefaultsWrongFalsely : Prop := stepDefaultsRow.holds Try.pinned (OpenSpec.ofChange stepDefaultsWrong)

/-- 'doubletakelaw13.StepTells': WHATEVER THE INPUT: true; the input reads as it did. -/
def stepTellsSpec : ChangeSpec := { name := "stepTells", fn := fun _ => fun
  | [d1, d2] => { results := [.lit (.bool true)], args := [d1, d2] }
  | _ => none }
def stepTellsRow : OpenClaim := { program := "ytpchcfkebljopaa", sum := "6cad91f091176b955d69840eae540ec302c46664bf27e921d8e7eaab6ea59fdc", func := "doubletake/doubletakelaw13.StepTells", spec := "stepTells", inPlace := ["math.Float64bits", "math.Float64frombits"], unfollowed := true, recurses := true, apart := false }
def StepTellsSaid : Prop := stepTellsRow.holds Try.pinned (OpenSpec.ofChange stepTellsSpec)

/-- ITS FALSE NEIGHBOUR: 'it returns false'. Refute it at one input. -/
def stepTellsWrong : ChangeSpec := { name := "stepTells", fn := fun _ => fun
  | [d1, d2] => { results := [.lit (.bool false)], args := [d1, d2] }
  | _ => none }
def StepTellsWrongFalsely : Prop := stepTellsRow.holds Try.pinned (OpenSpec.ofChange stepTellsWrong)

/-- 'doubletakelaw13.StepFolds': WHATEVER THE INPUT: true; the input reads as it did. -/
def stepFoldsSpec : ChangeSpec := { name := "stepFolds", fn := fun _ => fun
  | [d1, d2, d3] => { results := [.lit (.bool true)], args := [d1, d2, d3] }
  | _ => none }
def stepFoldsRow : OpenClaim := { program := "ytpchcfkebljopaa", sum := "6cad91f091176b955d69840eae540ec302c46664bf27e921d8e7eaab6ea59fdc", func := "doubletake/doubletakelaw13.StepFolds", spec := "stepFolds", inPlace := ["math.Float64bits", "math.Float64frombits"], unfollowed := true, recurses := true, apart := false }
def StepFoldsSaid : Prop := stepFoldsRow.holds Try.pinned (OpenSpec.ofChange stepFoldsSpec)

/-- ITS FALSE NEIGHBOUR: 'it returns false'. Refute it at one input. -/
def stepFoldsWrong : ChangeSpec := { name := "stepFolds", fn := fun _ => fun
  | [d1, d2, d3] => { results := [.lit (.bool false)], args := [d1, d2, d3] }
  | _ => none }
def StepFoldsWrongFalsely : Prop := stepFoldsRow.holds Try.pinned (OpenSpec.ofChange stepFoldsWrong)

/- THE SECOND FORM. 'bulk': how many values and letters a reading holds, each counted each time it is reached (what is shared counts as often as it is met; a slice's spare places count too). A statement '..UptoSaid' is the law's where the arguments, and the package variables that the reading takes, are together of bulk at most 1048576: NARROWER than '..Said'. Prove '..Said' where nothing that the law and all that it calls make is longer than what came in: it says more and counts as full. Else prove '..UptoSaid'. A law counts once. -/
mutual
def uptoBulk {H : Type} : DataW H → Nat
  | .lit (.string bytes) => bytes.length + 1
  | .lit _ => 1
  | .nil => 1
  | .ptr d => uptoBulk d + 1
  | .slice elems spare => uptoBulkAll elems + uptoBulkAll spare + 1
  | .agg parts => uptoBulkAll parts + 1
  | .iface _ d => uptoBulk d + 1
  | .map entries => uptoBulkEntries entries + 1
  | .held _ => 1
def uptoBulkAll {H : Type} : List (DataW H) → Nat
  | [] => 0
  | d :: r => uptoBulk d + uptoBulkAll r
def uptoBulkEntries {H : Type} : List (Lit × DataW H) → Nat
  | [] => 0
  | x :: r => uptoBulkEntry x + uptoBulkEntries r
def uptoBulkEntry {H : Type} : Lit × DataW H → Nat
  | (.string bytes, d) => bytes.length + uptoBulk d + 1
  | (_, d) => uptoBulk d + 1
 end
def uptoSmall : (H : Type) → List (DataW H) → Bool := fun _ ds => decide (uptoBulkAll ds ≤ 1048576)
def OpenSpec.upto (s : _root_.Go.ChangeSpec) : _root_.Go.OpenSpec := { _root_.Go.OpenSpec.ofChange s with cond := some uptoSmall }

/-- 'doubletakelaw12.RuleTotal', WHERE WHAT IT READS IS OF BULK AT MOST 1048576: true; the input reads as it did. -/
def ruleTotalUptoRow : OpenClaim := { program := "ytpchcfkebljopaa", sum := "6cad91f091176b955d69840eae540ec302c46664bf27e921d8e7eaab6ea59fdc", func := "doubletake/doubletakelaw12.RuleTotal", spec := "ruleTotal", unfollowed := true, recurses := true, apart := false, narrowed := true }
def RuleTotalUptoSaid : Prop := ruleTotalUptoRow.holds Try.pinned (OpenSpec.upto ruleTotalSpec)

/-- 'doubletakelaw12.RuleStops', WHERE WHAT IT READS IS OF BULK AT MOST 1048576: true; the input reads as it did. -/
def ruleStopsUptoRow : OpenClaim := { program := "ytpchcfkebljopaa", sum := "6cad91f091176b955d69840eae540ec302c46664bf27e921d8e7eaab6ea59fdc", func := "doubletake/doubletakelaw12.RuleStops", spec := "ruleStops", unfollowed := true, recurses := true, apart := false, narrowed := true }
def RuleStopsUptoSaid : Prop := ruleStopsUptoRow.holds Try.pinned (OpenSpec.upto ruleStopsSpec)

/-- 'doubletakelaw12.RuleRuns', WHERE WHAT IT READS IS OF BULK AT MOST 1048576: true; the input reads as it did. -/
def ruleRunsUptoRow : OpenClaim := { program := "ytpchcfkebljopaa", sum := "6cad91f091176b955d69840eae540ec302c46664bf27e921d8e7eaab6ea59fdc", func := "doubletake/doubletakelaw12.RuleRuns", spec := "ruleRuns", unfollowed := true, recurses := true, apart := false, narrowed := true }
def RuleRunsUptoSaid : Prop := ruleRunsUptoRow.holds Try.pinned (OpenSpec.upto ruleRunsSpec)

/-- 'doubletakelaw14.StateBack', WHERE WHAT IT READS IS OF BULK AT MOST 1048576: true; the input reads as it did. -/
def stateBackUptoRow : OpenClaim := { program := "ytpchcfkebljopaa", sum := "6cad91f091176b955d69840eae540ec302c46664bf27e921d8e7eaab6ea59fdc", func := "doubletake/doubletakelaw14.StateBack", spec := "stateBack", inPlace := ["math.Float64bits", "math.Float64frombits"], unfollowed := true, recurses := true, apart := false, narrowed := true }
def StateBackUptoSaid : Prop := stateBackUptoRow.holds Try.pinned (OpenSpec.upto stateBackSpec)

/-- 'doubletakelaw14.StateTurned', WHERE WHAT IT READS IS OF BULK AT MOST 1048576: true; the input reads as it did. -/
def stateTurnedUptoRow : OpenClaim := { program := "ytpchcfkebljopaa", sum := "6cad91f091176b955d69840eae540ec302c46664bf27e921d8e7eaab6ea59fdc", func := "doubletake/doubletakelaw14.StateTurned", spec := "stateTurned", inPlace := ["math.Float64bits", "math.Float64frombits"], unfollowed := true, recurses := true, apart := false, narrowed := true }
def StateTurnedUptoSaid : Prop := stateTurnedUptoRow.holds Try.pinned (OpenSpec.upto stateTurnedSpec)

/-- 'doubletakelaw14.StateLays', WHERE WHAT IT READS IS OF BULK AT MOST 1048576: true; the input reads as it did. -/
def stateLaysUptoRow : OpenClaim := { program := "ytpchcfkebljopaa", sum := "6cad91f091176b955d69840eae540ec302c46664bf27e921d8e7eaab6ea59fdc", func := "doubletake/doubletakelaw14.StateLays", spec := "stateLays", inPlace := ["math.Float64bits", "math.Float64frombits"], unfollowed := true, recurses := true, apart := false, narrowed := true }
def StateLaysUptoSaid : Prop := stateLaysUptoRow.holds Try.pinned (OpenSpec.upto stateLaysSpec)

/-- 'doubletakelaw14.StateBits', WHERE WHAT IT READS IS OF BULK AT MOST 1048576: true; the input reads as it did. -/
def stateBitsUptoRow : OpenClaim := { program := "ytpchcfkebljopaa", sum := "6cad91f091176b955d69840eae540ec302c46664bf27e921d8e7eaab6ea59fdc", func := "doubletake/doubletakelaw14.StateBits", spec := "stateBits", inPlace := ["math.Float64bits", "math.Float64frombits"], unfollowed := true, recurses := true, apart := false, narrowed := true }
def StateBitsUptoSaid : Prop := stateBitsUptoRow.holds Try.pinned (OpenSpec.upto stateBitsSpec)

/-- 'doubletakelaw14.StateMarks', WHERE WHAT IT READS IS OF BULK AT MOST 1048576: true; the input reads as it did. -/
def stateMarksUptoRow : OpenClaim := { program := "ytpchcfkebljopaa", sum := "6cad91f091176b955d69840eae540ec302c46664bf27e921d8e7eaab6ea59fdc", func := "doubletake/doubletakelaw14.StateMarks", spec := "stateMarks", inPlace := ["math.Float64bits", "math.Float64frombits"], unfollowed := true, recurses := true, apart := false, narrowed := true }
def StateMarksUptoSaid : Prop := stateMarksUptoRow.holds Try.pinned (OpenSpec.upto stateMarksSpec)

/-- 'doubletakelaw15.PacketBack', WHERE WHAT IT READS IS OF BULK AT MOST 1048576: true; the input reads as it did. -/
def packetBackUptoRow : OpenClaim := { program := "ytpchcfkebljopaa", sum := "6cad91f091176b955d69840eae540ec302c46664bf27e921d8e7eaab6ea59fdc", func := "doubletake/doubletakelaw15.PacketBack", spec := "packetBack", unfollowed := true, recurses := true, apart := false, narrowed := true }
def PacketBackUptoSaid : Prop := packetBackUptoRow.holds Try.pinned (OpenSpec.upto packetBackSpec)

/-- 'doubletakelaw15.PacketForms', WHERE WHAT IT READS IS OF BULK AT MOST 1048576: true; the input reads as it did. -/
def packetFormsUptoRow : OpenClaim := { program := "ytpchcfkebljopaa", sum := "6cad91f091176b955d69840eae540ec302c46664bf27e921d8e7eaab6ea59fdc", func := "doubletake/doubletakelaw15.PacketForms", spec := "packetForms", unfollowed := true, recurses := true, apart := false, narrowed := true }
def PacketFormsUptoSaid : Prop := packetFormsUptoRow.holds Try.pinned (OpenSpec.upto packetFormsSpec)

/-- 'doubletakelaw15.PacketLays', WHERE WHAT IT READS IS OF BULK AT MOST 1048576: true; the input reads as it did. -/
def packetLaysUptoRow : OpenClaim := { program := "ytpchcfkebljopaa", sum := "6cad91f091176b955d69840eae540ec302c46664bf27e921d8e7eaab6ea59fdc", func := "doubletake/doubletakelaw15.PacketLays", spec := "packetLays", unfollowed := true, recurses := true, apart := false, narrowed := true }
def PacketLaysUptoSaid : Prop := packetLaysUptoRow.holds Try.pinned (OpenSpec.upto packetLaysSpec)

/-- 'doubletakelaw15.PacketSizes', WHERE WHAT IT READS IS OF BULK AT MOST 1048576: true; the input reads as it did. -/
def packetSizesUptoRow : OpenClaim := { program := "ytpchcfkebljopaa", sum := "6cad91f091176b955d69840eae540ec302c46664bf27e921d8e7eaab6ea59fdc", func := "doubletake/doubletakelaw15.PacketSizes", spec := "packetSizes", unfollowed := true, recurses := true, apart := false, narrowed := true }
def PacketSizesUptoSaid : Prop := packetSizesUptoRow.holds Try.pinned (OpenSpec.upto packetSizesSpec)

/-- 'doubletakelaw13.StepStays', WHERE WHAT IT READS IS OF BULK AT MOST 1048576: true; the input reads as it did. -/
def stepStaysUptoRow : OpenClaim := { program := "ytpchcfkebljopaa", sum := "6cad91f091176b955d69840eae540ec302c46664bf27e921d8e7eaab6ea59fdc", func := "doubletake/doubletakelaw13.StepStays", spec := "stepStays", inPlace := ["math.Float64bits", "math.Float64frombits"], unfollowed := true, recurses := true, apart := false, narrowed := true }
def StepStaysUptoSaid : Prop := stepStaysUptoRow.holds Try.pinned (OpenSpec.upto stepStaysSpec)

/-- 'doubletakelaw13.StepApart', WHERE WHAT IT READS IS OF BULK AT MOST 1048576: true; the input reads as it did. -/
def stepApartUptoRow : OpenClaim := { program := "ytpchcfkebljopaa", sum := "6cad91f091176b955d69840eae540ec302c46664bf27e921d8e7eaab6ea59fdc", func := "doubletake/doubletakelaw13.StepApart", spec := "stepApart", inPlace := ["math.Float64bits", "math.Float64frombits"], unfollowed := true, recurses := true, apart := false, narrowed := true }
def StepApartUptoSaid : Prop := stepApartUptoRow.holds Try.pinned (OpenSpec.upto stepApartSpec)

/-- 'doubletakelaw13.StepFaults', WHERE WHAT IT READS IS OF BULK AT MOST 1048576: true; the input reads as it did. -/
def stepFaultsUptoRow : OpenClaim := { program := "ytpchcfkebljopaa", sum := "6cad91f091176b955d69840eae540ec302c46664bf27e921d8e7eaab6ea59fdc", func := "doubletake/doubletakelaw13.StepFaults", spec := "stepFaults", inPlace := ["math.Float64bits", "math.Float64frombits"], unfollowed := true, recurses := true, apart := false, narrowed := true }
def StepFaultsUptoSaid : Prop := stepFaultsUptoRow.holds Try.pinned (OpenSpec.upto stepFaultsSpec)

/-- 'doubletakelaw13.StepDefaults', WHERE WHAT IT READS IS OF BULK AT MOST 1048576: true; the input reads as it did. -/
def stepDefaultsUptoRow : OpenClaim := { program := "ytpchcfkebljopaa", sum := "6cad91f091176b955d69840eae540ec302c46664bf27e921d8e7eaab6ea59fdc", func := "doubletake/doubletakelaw13.StepDefaults", spec := "stepDefaults", inPlace := ["math.Float64bits", "math.Float64frombits"], unfollowed := true, recurses := true, apart := false, narrowed := true }
def StepDefaultsUptoSaid : Prop := stepDefaultsUptoRow.holds Try.pinned (OpenSpec.upto stepDefaultsSpec)

/-- 'doubletakelaw13.StepTells', WHERE WHAT IT READS IS OF BULK AT MOST 1048576: true; the input reads as it did. -/
def stepTellsUptoRow : OpenClaim := { program := "ytpchcfkebljopaa", sum := "6cad91f091176b955d69840eae540ec302c46664bf27e921d8e7eaab6ea59fdc", func := "doubletake/doubletakelaw13.StepTells", spec := "stepTells", inPlace := ["math.Float64bits", "math.Float64frombits"], unfollowed := true, recurses := true, apart := false, narrowed := true }
def StepTellsUptoSaid : Prop := stepTellsUptoRow.holds Try.pinned (OpenSpec.upto stepTellsSpec)

/-- 'doubletakelaw13.StepFolds', WHERE WHAT IT READS IS OF BULK AT MOST 1048576: true; the input reads as it did. -/
def stepFoldsUptoRow : OpenClaim := { program := "ytpchcfkebljopaa", sum := "6cad91f091176b955d69840eae540ec302c46664bf27e921d8e7eaab6ea59fdc", func := "doubletake/doubletakelaw13.StepFolds", spec := "stepFolds", inPlace := ["math.Float64bits", "math.Float64frombits"], unfollowed := true, recurses := true, apart := false, narrowed := true }
def StepFoldsUptoSaid : Prop := stepFoldsUptoRow.holds Try.pinned (OpenSpec.upto stepFoldsSpec)

end Rows
end Go.Proofs.Ytpchcfkebljopaa
