/-
  No cell of these rows narrows 'for every input' (looked for: loops, veiled, ifaces, maps, wideKeys, modest, calm, conditions, laid).
  DERIVED. THE GIVEN ROWS OF THIS SEAT. 8 by the template 'for every input the law returns true; each argument reads behind the call as it read before'; 0 by the template 'total and deterministic' (their statements: YtbejngeaocfieaaTotals.lean).
  GIVEN WITH THE SEED: the statements are not yours to turn. If you find one false, say at which input.
  Laid BY PROGRAM, IN A SANDBOX (cutbox-rows.mjs): the forced cells as the released guide's own fill.sh prints them over the translation 4b6b38818f1d4520… (all of the seat's roots in one cut). By AI agents, Wed Nov 11 2026. No macro, syntax, notation, axiom, sorry.
-/
import Derived.Test.YtbejngeaocfieaaChecked
import GoSem.Claim
import GoSem.ClaimJoined
import GoSem.ClaimMapViews
import Derived.JoinedTies
import Derived.KernelRfl
namespace Go.Proofs.Ytbejngeaocfieaa
/- THE CELL 'sum', in the pinned program and in every row, IS THE sha256 OF THE DUMP (.gsa) THAT YtbejngeaocfieaaProg.lean LOADS. Nothing in Lean hashes anything: it is a label: what it is worth is what the hold of that sum in a sandbox is worth. -/
noncomputable def Try.pinned : Pinned := { name := "ytbejngeaocfieaa", sum := "4b6b38818f1d4520972b4c077bb8892dc99492bf11783285253aafe00c880027", checked := Try.checked }
namespace Rows
def none {H : Type} : Left H := { results := [], args := [] }

/-- 'nacellelaw34.TimebaseTells': WHATEVER THE INPUT: true; the input reads as it did. -/
def timebaseTellsSpec : ChangeSpec := { name := "timebaseTells", fn := fun _ => fun
  | [d1, d2, d3, d4] => { results := [.lit (.bool true)], args := [d1, d2, d3, d4] }
  | _ => none }
def timebaseTellsRow : OpenClaim := { program := "ytbejngeaocfieaa", sum := "4b6b38818f1d4520972b4c077bb8892dc99492bf11783285253aafe00c880027", func := "nacelle/nacellelaw34.TimebaseTells", spec := "timebaseTells", unfollowed := true, recurses := true, apart := false }
def TimebaseTellsSaid : Prop := timebaseTellsRow.holds Try.pinned (OpenSpec.ofChange timebaseTellsSpec)

/-- ITS FALSE NEIGHBOUR: 'it returns false'. Refute it at one input. -/
def timebaseTellsWrong : ChangeSpec := { name := "timebaseTells", fn := fun _ => fun
  | [d1, d2, d3, d4] => { results := [.lit (.bool false)], args := [d1, d2, d3, d4] }
  | _ => none }
def TimebaseTellsWrongFalsely : Prop := timebaseTellsRow.holds Try.pinned (OpenSpec.ofChange timebaseTellsWrong)

/-- 'nacellelaw34.TimebaseVotes': WHATEVER THE INPUT: true; the input reads as it did. -/
def timebaseVotesSpec : ChangeSpec := { name := "timebaseVotes", fn := fun _ => fun
  | [d1, d2] => { results := [.lit (.bool true)], args := [d1, d2] }
  | _ => none }
def timebaseVotesRow : OpenClaim := { program := "ytbejngeaocfieaa", sum := "4b6b38818f1d4520972b4c077bb8892dc99492bf11783285253aafe00c880027", func := "nacelle/nacellelaw34.TimebaseVotes", spec := "timebaseVotes", unfollowed := true, recurses := true, apart := false }
def TimebaseVotesSaid : Prop := timebaseVotesRow.holds Try.pinned (OpenSpec.ofChange timebaseVotesSpec)

/-- ITS FALSE NEIGHBOUR: 'it returns false'. Refute it at one input. -/
def timebaseVotesWrong : ChangeSpec := { name := "timebaseVotes", fn := fun _ => fun
  | [d1, d2] => { results := [.lit (.bool false)], args := [d1, d2] }
  | _ => none }
def TimebaseVotesWrongFalsely : Prop := timebaseVotesRow.holds Try.pinned (OpenSpec.ofChange timebaseVotesWrong)

/-- 'nacellelaw34.TimebaseHalves': WHATEVER THE INPUT: true; the input reads as it did. -/
def timebaseHalvesSpec : ChangeSpec := { name := "timebaseHalves", fn := fun _ => fun
  | [d1, d2] => { results := [.lit (.bool true)], args := [d1, d2] }
  | _ => none }
def timebaseHalvesRow : OpenClaim := { program := "ytbejngeaocfieaa", sum := "4b6b38818f1d4520972b4c077bb8892dc99492bf11783285253aafe00c880027", func := "nacelle/nacellelaw34.TimebaseHalves", spec := "timebaseHalves", unfollowed := true, recurses := true, apart := false }
def TimebaseHalvesSaid : Prop := timebaseHalvesRow.holds Try.pinned (OpenSpec.ofChange timebaseHalvesSpec)

/-- ITS FALSE NEIGHBOUR: 'it returns false'. Refute it at one input. -/
def timebaseHalvesWrong : ChangeSpec := { name := "timebaseHalves", fn := fun _ => fun
  | [d1, d2] => { results := [.lit (.bool false)], args := [d1, d2] }
  | _ => none }
def TimebaseHalvesWrongFalsely : Prop := timebaseHalvesRow.holds Try.pinned (OpenSpec.ofChange timebaseHalvesWrong)

/-- 'nacellelaw34.TimebaseConverges': WHATEVER THE INPUT: true; the input reads as it did. -/
def timebaseConvergesSpec : ChangeSpec := { name := "timebaseConverges", fn := fun _ => fun
  | [d] => { results := [.lit (.bool true)], args := [d] }
  | _ => none }
def timebaseConvergesRow : OpenClaim := { program := "ytbejngeaocfieaa", sum := "4b6b38818f1d4520972b4c077bb8892dc99492bf11783285253aafe00c880027", func := "nacelle/nacellelaw34.TimebaseConverges", spec := "timebaseConverges", unfollowed := true, recurses := true, apart := false }
def TimebaseConvergesSaid : Prop := timebaseConvergesRow.holds Try.pinned (OpenSpec.ofChange timebaseConvergesSpec)

/-- ITS FALSE NEIGHBOUR: 'it returns false'. Refute it at one input. -/
def timebaseConvergesWrong : ChangeSpec := { name := "timebaseConverges", fn := fun _ => fun
  | [d] => { results := [.lit (.bool false)], args := [d] }
  | _ => none }
def TimebaseConvergesWrongFalsely : Prop := timebaseConvergesRow.holds Try.pinned (OpenSpec.ofChange timebaseConvergesWrong)

/-- 'nacellelaw34.TimebaseRange': WHATEVER THE INPUT: true; the input reads as it did. -/
def timebaseRangeSpec : ChangeSpec := { name := "timebaseRange", fn := fun _ => fun
  | [d1, d2] => { results := [.lit (.bool true)], args := [d1, d2] }
  | _ => none }
def timebaseRangeRow : OpenClaim := { program := "ytbejngeaocfieaa", sum := "4b6b38818f1d4520972b4c077bb8892dc99492bf11783285253aafe00c880027", func := "nacelle/nacellelaw34.TimebaseRange", spec := "timebaseRange", unfollowed := true, recurses := true, apart := false }
def TimebaseRangeSaid : Prop := timebaseRangeRow.holds Try.pinned (OpenSpec.ofChange timebaseRangeSpec)

/-- ITS FALSE NEIGHBOUR: 'it returns false'. Refute it at one input. -/
def timebaseRangeWrong : ChangeSpec := { name := "timebaseRange", fn := fun _ => fun
  | [d1, d2] => { results := [.lit (.bool false)], args := [d1, d2] }
  | _ => none }
def TimebaseRangeWrongFalsely : Prop := timebaseRangeRow.holds Try.pinned (OpenSpec.ofChange timebaseRangeWrong)

/-- 'nacellelaw34.TimebaseSteps': WHATEVER THE INPUT: true; the input reads as it did. -/
def timebaseStepsSpec : ChangeSpec := { name := "timebaseSteps", fn := fun _ => fun
  | [d1, d2] => { results := [.lit (.bool true)], args := [d1, d2] }
  | _ => none }
def timebaseStepsRow : OpenClaim := { program := "ytbejngeaocfieaa", sum := "4b6b38818f1d4520972b4c077bb8892dc99492bf11783285253aafe00c880027", func := "nacelle/nacellelaw34.TimebaseSteps", spec := "timebaseSteps", unfollowed := true, recurses := true, apart := false }
def TimebaseStepsSaid : Prop := timebaseStepsRow.holds Try.pinned (OpenSpec.ofChange timebaseStepsSpec)

/-- ITS FALSE NEIGHBOUR: 'it returns false'. Refute it at one input. -/
def timebaseStepsWrong : ChangeSpec := { name := "timebaseSteps", fn := fun _ => fun
  | [d1, d2] => { results := [.lit (.bool false)], args := [d1, d2] }
  | _ => none }
def TimebaseStepsWrongFalsely : Prop := timebaseStepsRow.holds Try.pinned (OpenSpec.ofChange timebaseStepsWrong)

/-- 'nacellelaw34.TimebaseShift': WHATEVER THE INPUT: true; the input reads as it did. -/
def timebaseShiftSpec : ChangeSpec := { name := "timebaseShift", fn := fun _ => fun
  | [d1, d2, d3] => { results := [.lit (.bool true)], args := [d1, d2, d3] }
  | _ => none }
def timebaseShiftRow : OpenClaim := { program := "ytbejngeaocfieaa", sum := "4b6b38818f1d4520972b4c077bb8892dc99492bf11783285253aafe00c880027", func := "nacelle/nacellelaw34.TimebaseShift", spec := "timebaseShift", unfollowed := true, recurses := true, apart := false }
def TimebaseShiftSaid : Prop := timebaseShiftRow.holds Try.pinned (OpenSpec.ofChange timebaseShiftSpec)

/-- ITS FALSE NEIGHBOUR: 'it returns false'. Refute it at one input. -/
def timebaseShiftWrong : ChangeSpec := { name := "timebaseShift", fn := fun _ => fun
  | [d1, d2, d3] => { results := [.lit (.bool false)], args := [d1, d2, d3] }
  | _ => none }
def TimebaseShiftWrongFalsely : Prop := timebaseShiftRow.holds Try.pinned (OpenSpec.ofChange timebaseShiftWrong)

/-- 'nacellelaw34.TimebaseWrong': WHATEVER THE INPUT: true; the input reads as it did. -/
def timebaseWrongSpec : ChangeSpec := { name := "timebaseWrong", fn := fun _ => fun
  | [d1, d2] => { results := [.lit (.bool true)], args := [d1, d2] }
  | _ => none }
def timebaseWrongRow : OpenClaim := { program := "ytbejngeaocfieaa", sum := "4b6b38818f1d4520972b4c077bb8892dc99492bf11783285253aafe00c880027", func := "nacelle/nacellelaw34.TimebaseWrong", spec := "timebaseWrong", unfollowed := true, recurses := true, apart := false }
def TimebaseWrongSaid : Prop := timebaseWrongRow.holds Try.pinned (OpenSpec.ofChange timebaseWrongSpec)

/-- ITS FALSE NEIGHBOUR: 'it returns false'. Refute it at one input. -/
def timebaseWrongWrong : ChangeSpec := { name := "timebaseWrong", fn := fun _ => fun
  | [d1, d2] => { results := [.lit (.bool false)], args := [d1, d2] }
  | _ => none }
def TimebaseWrongWrongFalsely : Prop := timebaseWrongRow.holds Try.pinned (OpenSpec.ofChange timebaseWrongWrong)

/- THE SECOND FORM. 'bulk': how many values and letters a reading holds, each counted each time it is reached (what is shared counts as often as it is met; a slice's spare places count too). A statement '..UptoSaid' is the law's where the arguments, and the package variables that the reading takes, are together of bulk at most 1048576: NARROWER than '..Said'. Prove '..Said' where nothing that the law and all that it calls make is longer than what came in: it says more and counts as full. Else prove '..UptoSaid'. A law counts once. -/
mutual
def uptoBulk {H : Type} : DataW H → Nat
  | .lit (.string bytes) => bytes.length + 1
  | .lit _ => 1
  | .nil => 1
  | .ptr d => uptoBulk d + 1
  | .slice elems spare => uptoBulkAll elems + uptoBulkAll spare + 1
  | .agg parts => uptoBulkAll parts + 1
  | .iface _ d => uptoBulk d + 1
  | .map entries => uptoBulkEntries entries + 1
  | .held _ => 1
def uptoBulkAll {H : Type} : List (DataW H) → Nat
  | [] => 0
  | d :: r => uptoBulk d + uptoBulkAll r
def uptoBulkEntries {H : Type} : List (Lit × DataW H) → Nat
  | [] => 0
  | x :: r => uptoBulkEntry x + uptoBulkEntries r
def uptoBulkEntry {H : Type} : Lit × DataW H → Nat
  | (.string bytes, d) => bytes.length + uptoBulk d + 1
  | (_, d) => uptoBulk d + 1
 end
def uptoSmall : (H : Type) → List (DataW H) → Bool := fun _ ds => decide (uptoBulkAll ds ≤ 1048576)
def OpenSpec.upto (s : _root_.Go.ChangeSpec) : _root_.Go.OpenSpec := { _root_.Go.OpenSpec.ofChange s with cond := some uptoSmall }

/-- 'nacellelaw34.TimebaseTells', WHERE WHAT IT READS IS OF BULK AT MOST 1048576: true; the input reads as it did. -/
def timebaseTellsUptoRow : OpenClaim := { program := "ytbejngeaocfieaa", sum := "4b6b38818f1d4520972b4c077bb8892dc99492bf11783285253aafe00c880027", func := "nacelle/nacellelaw34.TimebaseTells", spec := "timebaseTells", unfollowed := true, recurses := true, apart := false, narrowed := true }
def TimebaseTellsUptoSaid : Prop := timebaseTellsUptoRow.holds Try.pinned (OpenSpec.upto timebaseTellsSpec)

/-- 'nacellelaw34.TimebaseVotes', WHERE WHAT IT READS IS OF BULK AT MOST 1048576: true; the input reads as it did. -/
def timebaseVotesUptoRow : OpenClaim := { program := "ytbejngeaocfieaa", sum := "4b6b38818f1d4520972b4c077bb8892dc99492bf11783285253aafe00c880027", func := "nacelle/nacellelaw34.TimebaseVotes", spec := "timebaseVotes", unfollowed := true, recurses := true, apart := false, narrowed := true }
def TimebaseVotesUptoSaid : Prop := timebaseVotesUptoRow.holds Try.pinned (OpenSpec.upto timebaseVotesSpec)

/-- 'nacellelaw34.TimebaseHalves', WHERE WHAT IT READS IS OF BULK AT MOST 1048576: true; the input reads as it did. -/
def timebaseHalvesUptoRow : OpenClaim := { program := "ytbejngeaocfieaa", sum := "4b6b38818f1d4520972b4c077bb8892dc99492bf11783285253aafe00c880027", func := "nacelle/nacellelaw34.TimebaseHalves", spec := "timebaseHalves", unfollowed := true, recurses := true, apart := false, narrowed := true }
def TimebaseHalvesUptoSaid : Prop := timebaseHalvesUptoRow.holds Try.pinned (OpenSpec.upto timebaseHalvesSpec)

/-- 'nacellelaw34.TimebaseConverges', WHERE WHAT IT READS IS OF BULK AT MOST 1048576: true; the input reads as it did. -/
def timebaseConvergesUptoRow : OpenClaim := { program := "ytbejngeaocfieaa", sum := "4b6b38818f1d4520972b4c077bb8892dc99492bf11783285253aafe00c880027", func := "nacelle/nacellelaw34.TimebaseConverges", spec := "timebaseConverges", unfollowed := true, recurses := true, apart := false, narrowed := true }
def TimebaseConvergesUptoSaid : Prop := timebaseConvergesUptoRow.holds Try.pinned (OpenSpec.upto timebaseConvergesSpec)

/-- 'nacellelaw34.TimebaseRange', WHERE WHAT IT READS IS OF BULK AT MOST 1048576: true; the input reads as it did. -/
def timebaseRangeUptoRow : OpenClaim := { program := "ytbejngeaocfieaa", sum := "4b6b38818f1d4520972b4c077bb8892dc99492bf11783285253aafe00c880027", func := "nacelle/nacellelaw34.TimebaseRange", spec := "timebaseRange", unfollowed := true, recurses := true, apart := false, narrowed := true }
def TimebaseRangeUptoSaid : Prop := timebaseRangeUptoRow.holds Try.pinned (OpenSpec.upto timebaseRangeSpec)

/-- 'nacellelaw34.TimebaseSteps', WHERE WHAT IT READS IS OF BULK AT MOST 1048576: true; the input reads as it did. -/
def timebaseStepsUptoRow : OpenClaim := { program := "ytbejngeaocfieaa", sum := "4b6b38818f1d4520972b4c077bb8892dc99492bf11783285253aafe00c880027", func := "nacelle/nacellelaw34.TimebaseSteps", spec := "timebaseSteps", unfollowed := true, recurses := true, apart := false, narrowed := true }
def TimebaseStepsUptoSaid : Prop := timebaseStepsUptoRow.holds Try.pinned (OpenSpec.upto timebaseStepsSpec)

/-- 'nacellelaw34.TimebaseShift', WHERE WHAT IT READS IS OF BULK AT MOST 1048576: true; the input reads as it did. -/
def timebaseShiftUptoRow : OpenClaim := { program := "ytbejngeaocfieaa", sum := "4b6b38818f1d4520972b4c077bb8892dc99492bf11783285253aafe00c880027", func := "nacelle/nacellelaw34.TimebaseShift", spec := "timebaseShift", unfollowed := true, recurses := true, apart := false, narrowed := true }
def TimebaseShiftUptoSaid : Prop := timebaseShiftUptoRow.holds Try.pinned (OpenSpec.upto timebaseShiftSpec)

/-- 'nacellelaw34.TimebaseWrong', WHERE WHAT IT READS IS OF BULK AT MOST 1048576: true; the input reads as it did. -/
def timebaseWrongUptoRow : OpenClaim := { program := "ytbejngeaocfieaa", sum := "4b6b38818f1d4520972b4c077bb8892dc99492bf11783285253aafe00c880027", func := "nacelle/nacellelaw34.TimebaseWrong", spec := "timebaseWrong", unfollowed := true, recurses := true, apart := false, narrowed := true }
def TimebaseWrongUptoSaid : Prop := timebaseWrongUptoRow.holds Try.pinned (OpenSpec.upto timebaseWrongSpec)

end Rows
end Go.Proofs.Ytbejngeaocfieaa
